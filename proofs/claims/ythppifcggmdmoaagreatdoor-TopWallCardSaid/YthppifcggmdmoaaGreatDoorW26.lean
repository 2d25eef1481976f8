/- Part 26 of the proof of TopWall: no condition; what its declarations say stands at each. -/
import Derived.Test.YthppifcggmdmoaaGreatDoorW21
import Derived.Test.YthppifcggmdmoaaGreatDoorW24
import Derived.Test.YthppifcggmdmoaaGreatDoorW25
import Derived.Test.YthppifcggmdmoaaGreatDoorW14
import Derived.Deep.CutRange
import Derived.Deep.Cut
namespace Go.Proofs.YthppifcggmdmoaaGreatDoor
open Go.RowKit
set_option linter.unusedVariables false
set_option linter.unusedSimpArgs false
attribute [local go_sem ↓] Go.wp_at_zero Go.wp_at_succ
structure BpW (w wr : World) (base rd : Nat) (RV ZV LV : Value) (sg : Int) (rs : List RuT) (zs : List ZoT) (ls : List LkT) : Prop where
 L : Below base w wr
 R : Blk wr rd 63 #[RV, ZV, LV, .int .i64 sg]
 M : PbM wr base RV ZV LV rs zs ls
 S : ∀ g cs, Blk w g 9 cs → Blk wr g 9 cs
 h1 : base ≤ wr.heap.size
 h2 : base ≤ rd
section
variable {w wr wr2 : World} {base rd : Nat} {RV ZV LV : Value} {sg : Int} {rs : List RuT} {zs : List ZoT} {ls : List LkT}
theorem BpW.step (h : BpW w wr base rd RV ZV LV sg rs zs ls) (hb : Below wr.heap.size wr wr2) : BpW w wr2 base rd RV ZV LV sg rs zs ls :=
 ⟨h.L.trans (hb.mono h.h1), h.R.step hb, h.M.step hb, fun g cs hg => (h.S g cs hg).step hb, Nat.le_trans h.h1 hb.size, h.h2⟩
theorem BpW.off (h : BpW w wr base rd RV ZV LV sg rs zs ls) {g : Nat} {t : TypeId} {cs : Array Value} (hb : Blk wr g t cs) (hg : base ≤ g) (n0 : t ≠ 63) (n1 : t ≠ 70) (n2 : t ≠ 75) (n3 : t ≠ 77) (n4 : t ≠ 80 ∨ ∀ z ∈ zs, (zoS z).ownBlock ≠ some g) (n5 : t ≠ 9) (i : Nat) (u : Value) : BpW w (wr.setCell ⟨g, i, none⟩ u) base rd RV ZV LV sg rs zs ls :=
 ⟨h.L.setCell (p := ⟨g, i, none⟩) hg u, h.R.far (a := ⟨g, i, none⟩) (h.R.ne hb n0.symm) u,
  ⟨own_off h.M.hR (a := ⟨g, i, none⟩) (hb.own_ne h.M.hR n1) u, own_off h.M.hZ (a := ⟨g, i, none⟩) (hb.own_ne h.M.hZ n2) u, own_off h.M.hL (a := ⟨g, i, none⟩) (hb.own_ne h.M.hL n3) u, fun z hz => own_off (h.M.hE z hz) (a := ⟨g, i, none⟩) (by rcases n4 with n4 | n4; exact hb.own_ne (h.M.hE z hz) n4; exact n4 z hz) u, h.M.hD⟩,
  fun q cs2 hq => (h.S q cs2 hq).far (a := ⟨g, i, none⟩) ((h.S q cs2 hq).ne hb n5.symm) u, by simpa using h.h1, h.h2⟩
theorem BpW.stg (h : BpW w wr base rd RV ZV LV sg rs zs ls) (sg' : Int) : BpW w (wr.setCell ⟨rd, 3, none⟩ (.int .i64 sg')) base rd RV ZV LV sg' rs zs ls :=
 ⟨h.L.setCell (p := ⟨rd, 3, none⟩) h.h2 _, by have h0 := h.R.set 3 (.int .i64 sg'); simp only [List.setIfInBounds_toArray, List.set_cons_succ, List.set_cons_zero] at h0; exact h0,
  h.M.off h.R (by decide) (by decide) (by decide) (by decide) 3 _,
  fun q cs2 hq => (h.S q cs2 hq).far (a := ⟨rd, 3, none⟩) ((h.S q cs2 hq).ne h.R (by decide)) _, by simpa using h.h1, h.h2⟩
end
theorem eb_0 {W : World} {b : Nat} {t : TypeId} {u0 u1 u2 u3 u4 : Value} (h : Blk W b t #[u0, u1, u2, u3, u4]) (x : Int) : Blk (W.setCell ⟨b, 0, none⟩ (.int .i64 x)) b t #[.int .i64 x, u1, u2, u3, u4] := by
 have h0 := h.set 0 (.int .i64 x)
 simp only [List.setIfInBounds_toArray, List.set_cons_succ, List.set_cons_zero] at h0
 exact h0
theorem eb_1 {W : World} {b : Nat} {t : TypeId} {u0 u1 u2 u3 u4 : Value} (h : Blk W b t #[u0, u1, u2, u3, u4]) (x : ByteArray) : Blk (W.setCell ⟨b, 1, none⟩ (.string x)) b t #[u0, .string x, u2, u3, u4] := by
 have h0 := h.set 1 (.string x)
 simp only [List.setIfInBounds_toArray, List.set_cons_succ, List.set_cons_zero] at h0
 exact h0
theorem eb_2 {W : World} {b : Nat} {t : TypeId} {u0 u1 u2 u3 u4 : Value} (h : Blk W b t #[u0, u1, u2, u3, u4]) (x : Int) : Blk (W.setCell ⟨b, 2, none⟩ (.int .i64 x)) b t #[u0, u1, .int .i64 x, u3, u4] := by
 have h0 := h.set 2 (.int .i64 x)
 simp only [List.setIfInBounds_toArray, List.set_cons_succ, List.set_cons_zero] at h0
 exact h0
theorem eb_3 {W : World} {b : Nat} {t : TypeId} {u0 u1 u2 u3 u4 : Value} (h : Blk W b t #[u0, u1, u2, u3, u4]) (x : ByteArray) : Blk (W.setCell ⟨b, 3, none⟩ (.string x)) b t #[u0, u1, u2, .string x, u4] := by
 have h0 := h.set 3 (.string x)
 simp only [List.setIfInBounds_toArray, List.set_cons_succ, List.set_cons_zero] at h0
 exact h0
theorem eb_4 {W : World} {b : Nat} {t : TypeId} {u0 u1 u2 u3 u4 : Value} (h : Blk W b t #[u0, u1, u2, u3, u4]) (x : Int) : Blk (W.setCell ⟨b, 4, none⟩ (.int .i64 x)) b t #[u0, u1, u2, u3, .int .i64 x] := by
 have h0 := h.set 4 (.int .i64 x)
 simp only [List.setIfInBounds_toArray, List.set_cons_succ, List.set_cons_zero] at h0
 exact h0
theorem n45 {n : Nat} (h : n = 4 ∨ n = 5) : (((n : Int) != 4) && ((n : Int) != 5)) = false := by rcases h with rfl | rfl <;> rfl
theorem wd_at {w : World} {g : Nat} {ws : List ByteArray} (h : Blk w g 9 (ws.map Value.string).toArray) {i : Nat} (hi : i < ws.length) : w.cell? ⟨g, i, none⟩ = some (.string (ws.getD i eMT)) := by
 rw [h.cell i]
 simp [List.getD, hi]
def EraPost (F : Rdr) (w : World) (base rd : Nat) (RV ZV LV : Value) (op : Bool) (rs : List RuT) (zs : List ZoT) (ls : List LkT) (ws : List ByteArray) (e : Ending) (w' : World) : Prop :=
 ∃ ok : Bool, e = .returned (.bool ok) ∧ Below base w w' ∧
   (ok = true → (op = true ∧ (ws.length = 4 ∨ ws.length = 5) ∧ eraG F ws) ∧ ∃ Y z A c, zs = Y ++ [z] ∧ BpW w w' base rd RV ZV LV (if ws.length = 5 then 2 else 1) rs (Y ++ [⟨z.name, A, c, z.eras ++ [eraV F ws]⟩]) ls) ∧
   (ok = false → ¬ (op = true ∧ (ws.length = 4 ∨ ws.length = 5) ∧ eraG F ws))
theorem era_no {F : Rdr} {w w' : World} {base rd : Nat} {RV ZV LV : Value} {op : Bool} {rs : List RuT} {zs : List ZoT} {ls : List LkT} {ws : List ByteArray} (hb : Below base w w') (h : ¬ (op = true ∧ (ws.length = 4 ∨ ws.length = 5) ∧ eraG F ws)) : EraPost F w base rd RV ZV LV op rs zs ls ws (.returned (.bool false)) w' :=
 ⟨false, rfl, hb, fun h => (by cases h), fun _ => h⟩
theorem zo_last {w : World} {base Zb cz : Nat} {RV LV : Value} {rs : List RuT} {Y : List ZoT} {z : ZoT} {ls : List LkT} (h : PbM w base RV (.slice (some ⟨Zb, 0, none⟩) (Y.length + 1) cz) LV rs (Y ++ [z]) ls) : w.cell? ⟨Zb, Y.length * 2 + 1, none⟩ = some (.slice z.A z.eras.length z.cap) ∧ w.frozen? ⟨Zb, Y.length * 2 + 1, none⟩ = false ∧ Zb < w.heap.size := by
 have hl : (Y ++ [z]).length = Y.length + 1 := by simp
 have h1 := h.hZ
 rw [hl] at h1
 refine ⟨?_, h1.frozenAt _, (h1.lt Zb rfl).2⟩
 rw [h1.cellAt (Y.length * 2 + 1) (by omega), List.map_append, List.flatten_append, List.getElem?_append_right (by rw [zo_flen]; omega), zo_flen, show Y.length * 2 + 1 - Y.length * 2 = 1 by omega]
 rfl
theorem era_yes {F : Rdr} {w w' : World} {base rd : Nat} {RV ZV LV : Value} {op : Bool} {rs : List RuT} {Y : List ZoT} {z : ZoT} {ls : List LkT} {ws : List ByteArray} {A : Option Addr} {c : Nat} (h1 : op = true) (h2 : ws.length = 4 ∨ ws.length = 5) (h3 : eraG F ws) (h : BpW w w' base rd RV ZV LV (if ws.length = 5 then 2 else 1) rs (Y ++ [⟨z.name, A, c, z.eras ++ [eraV F ws]⟩]) ls) : EraPost F w base rd RV ZV LV op rs (Y ++ [z]) ls ws (.returned (.bool true)) w' :=
 ⟨true, rfl, h.L, fun _ => ⟨⟨h1, h2, h3⟩, Y, z, A, c, rfl, h⟩, fun h => (by cases h)⟩
theorem era_fin {w v0 w6 : World} {base rd Zb cz gg cap2 : Nat} {RV LV : Value} {sg : Int} {rs : List RuT} {Y : List ZoT} {z : ZoT} {ls : List LkT} {x : ErT} {cs : Array Value} (h : BpW w v0 base rd RV (.slice (some ⟨Zb, 0, none⟩) (Y.length + 1) cz) LV sg rs (Y ++ [z]) ls) (ho : w6.ownsRow base 80 5 (.slice (some ⟨gg, 0, none⟩) (z.eras.length + 1) cap2) (z.eras.length + 1) ((z.eras.map erC).flatten ++ erC x)) (hg : (v0.alloc (.cells cs 80)).grownBy w6 (zoS z).ownBlock) (hat : (zoS z).ownBlock = some gg ∨ gg = v0.heap.size + 1) :
  w6.cell? ⟨Zb, Y.length * 2 + 1, none⟩ = some (.slice z.A z.eras.length z.cap) ∧ w6.frozen? ⟨Zb, Y.length * 2 + 1, none⟩ = false ∧ Zb < w6.heap.size ∧ Below base w w6 ∧ (∀ X xs, Blk (v0.alloc (.cells cs 80)) X 80 xs → (∀ q ∈ Y ++ [z], (zoS q).ownBlock ≠ some X) → Blk w6 X 80 xs) ∧
   BpW w (w6.setCell ⟨Zb, Y.length * 2 + 1, none⟩ (.slice (some ⟨gg, 0, none⟩) (z.eras.length + 1) cap2)) base rd RV (.slice (some ⟨Zb, 0, none⟩) (Y.length + 1) cz) LV sg rs (Y ++ [⟨z.name, some ⟨gg, 0, none⟩, cap2, z.eras ++ [x]⟩]) ls := by
 have hV := (Below.refl v0.heap.size v0).alloc (Nat.le_refl _) (.cells cs 80)
 have h' := h.step hV
 have hE := h'.M.hE z (by simp)
 have hl : (Y ++ [z]).length = Y.length + 1 := by simp
 have hZ := h'.M.hZ.kept hg (own_ne h'.M.hZ hE (by decide))
 rw [hl] at hZ
 have hb6 : Below base w w6 := h'.L.grown hg h'.h1 (fun k hk => (hE.lt k hk).1)
 have hbZ := (hZ.lt Zb rfl)
 have hM := PbM.addE h'.M ho hg (by rcases hat with e | e; exact Or.inl e; exact Or.inr (by rw [e, size_alloc]; exact Nat.le_refl _))
 have hR := h'.R.grown hg (h'.R.own_ne hE (by decide))
 have nZ : ∀ {g : Nat} {t : TypeId} {cs : Array Value}, Blk w6 g t cs → t ≠ 75 → g ≠ Zb := fun hb hne e => hb.own_ne hZ hne (by rw [e]; rfl)
 refine ⟨?_, hZ.frozenAt _, hbZ.2, hb6, fun X xs hX hq => hX.grown hg (hq z (by simp)), ⟨hb6.setCell (p := ⟨Zb, Y.length * 2 + 1, none⟩) hbZ.1 _, hR.far (a := ⟨Zb, Y.length * 2 + 1, none⟩) (nZ hR (by decide)) _, hM, fun g c2 hs => ?_, ?_, h.h2⟩⟩
 ·rw [hZ.cellAt (Y.length * 2 + 1) (by omega), List.map_append, List.flatten_append, List.getElem?_append_right (by rw [zo_flen]; omega), zo_flen, show Y.length * 2 + 1 - Y.length * 2 = 1 by omega]
  rfl
 ·have hs6 := (h'.S g c2 hs).grown hg ((h'.S g c2 hs).own_ne hE (by decide))
  exact hs6.far (a := ⟨Zb, Y.length * 2 + 1, none⟩) (nZ hs6 (by decide)) _
 ·have := hg.size; have := h'.h1; simp at *; omega
set_option maxRecDepth 100000 in
set_option maxHeartbeats 8000000 in
theorem b_era (F : Rdr) (w : World) (base rd Wb : Nat) (RV ZV LV : Value) (sg : Int) (op : Bool) (rs : List RuT) (zs : List ZoT) (ls : List LkT) (ws : List ByteArray) (hW : BpW w w base rd RV ZV LV sg rs zs ls) (hX : Blk w Wb 9 (ws.map Value.string).toArray) (hsz : ∀ b ∈ ws, b.size ≤ 60000) (hl : ws.length ≤ 60001) (hop : op = decide (sg = 2)) (hz : op = true → zs ≠ []) (hzl : zs.length ≤ 100000 ∧ ∀ z ∈ zs, z.eras.length ≤ 100000) (P : ∀ V : World, Below base w V → RpW V) :
  Calls Tryz.prog 54 #[.pointer (some ⟨rd, 0, none⟩), .slice (some ⟨Wb, 0, none⟩) ws.length ws.length] w (EraPost F w base rd RV ZV LV op rs zs ls ws) := by
 have HW := Lib.hid hW
 have HX := Lib.hid hX
 have HSZ := Lib.hid hsz
 have HP := Lib.hid P
 have HZ := Lib.hid hz
 have HZL := Lib.hid hzl
 clear hW hX hsz P hz hzl
 have rc := HW.out.R.cell
 have rl := HW.out.R.lt
 by_cases hc : op = true ∧ (ws.length = 4 ∨ ws.length = 5)
 rotate_left
 ·have HN := Lib.hid (fun (h : op = true ∧ (ws.length = 4 ∨ ws.length = 5) ∧ eraG F ws) => hc ⟨h.1, h.2.1⟩)
  have HL := Lib.hid HW.out.L
  by_cases hs : sg = 2
  ·have h4 : ¬ ws.length = 4 := fun h => hc ⟨by rw [hop]; exact decide_eq_true hs, Or.inl h⟩
   have h5 : ¬ ws.length = 5 := fun h => hc ⟨by rw [hop]; exact decide_eq_true hs, Or.inr h⟩
   have h4' : ((ws.length : Int) != 4) = true := by rw [bne_iff_ne]; omega
   have h5' : ((ws.length : Int) != 5) = true := by rw [bne_iff_ne]; omega
   subst hs
   clear hc h4 h5 hop
   go_enter Tryz.func54, Tryz.ntmps54
   go_wp2_with fail
   go_ret
   exact era_no HL.out HN.out
  ·have hs' : (sg != 2) = true := by rw [bne_iff_ne]; exact hs
   clear hc hs hop
   go_enter Tryz.func54, Tryz.ntmps54
   go_wp2_with fail
   go_ret
   exact era_no HL.out HN.out
 obtain ⟨ho, h45⟩ := hc
 rw [hop] at ho
 have hs2 := of_decide_eq_true ho
 subst hs2
 obtain ⟨Y, z, hYz⟩ : ∃ Y z, zs = Y ++ [z] := by
  have hne := HZ.out (by rw [hop]; rfl)
  exact ⟨zs.dropLast, zs.getLast hne, (List.dropLast_concat_getLast hne).symm⟩
 subst hYz
 have hop2 : op = true := by rw [hop]; rfl
 have h4i : 1 < ws.length ∧ 2 < ws.length ∧ 3 < ws.length := by omega
 have hm := fun i => (show (ws.getD i eMT).size ≤ 60000 from by
  by_cases h : i < ws.length
  ·have e : ws.getD i eMT = ws[i] := by simp [List.getD, h]
   rw [e]; exact HSZ.out _ (List.getElem_mem h)
  ·have e : ws.getD i eMT = eMT := by simp [List.getD, show ws[i]? = none from List.getElem?_eq_none (by omega)]
   rw [e]; exact Nat.zero_le _)
 have HSG := Lib.hid hm
 clear hm
 obtain ⟨n, hn⟩ : ∃ n, ws.length = n := ⟨_, rfl⟩
 have HC := Lib.hid (fun (V : World) (h : Blk V Wb 9 (ws.map Value.string).toArray) (i : Nat) (hi : i < n) => wd_at h (by rw [hn]; exact hi))
 have HNn := Lib.hid hn
 rw [hn] at h45 h4i hl ⊢
 clear hn hop
 obtain ⟨s1, hs1⟩ : ∃ x, ws.getD 1 eMT = x := ⟨_, rfl⟩
 obtain ⟨s2, hs2⟩ : ∃ x, ws.getD 2 eMT = x := ⟨_, rfl⟩
 obtain ⟨s3, hs3⟩ : ∃ x, ws.getD 3 eMT = x := ⟨_, rfl⟩
 obtain ⟨s4, hs4⟩ : ∃ x, ws.getD 4 eMT = x := ⟨_, rfl⟩
 have HS1 := Lib.hid hs1
 have HS2 := Lib.hid hs2
 have HS3 := Lib.hid hs3
 have HS4 := Lib.hid hs4
 have z1 : s1.size ≤ 60000 := by rw [← hs1]; exact HSG.out 1
 have z2 : s2.size ≤ 60000 := by rw [← hs2]; exact HSG.out 2
 have z4 : s4.size ≤ 60000 := by rw [← hs4]; exact HSG.out 4
 have HX1 := Lib.hid (fun (V : World) (h : Blk V Wb 9 (ws.map Value.string).toArray) => (by have q := HC.out V h 1 (by omega); rw [hs1] at q; exact q : V.cell? ⟨Wb, 1, none⟩ = some (.string s1)))
 have HX2 := Lib.hid (fun (V : World) (h : Blk V Wb 9 (ws.map Value.string).toArray) => (by have q := HC.out V h 2 (by omega); rw [hs2] at q; exact q : V.cell? ⟨Wb, 2, none⟩ = some (.string s2)))
 have HX3 := Lib.hid (fun (V : World) (h : Blk V Wb 9 (ws.map Value.string).toArray) => (by have q := HC.out V h 3 (by omega); rw [hs3] at q; exact q : V.cell? ⟨Wb, 3, none⟩ = some (.string s3)))
 have HX4 := Lib.hid (fun (V : World) (h : Blk V Wb 9 (ws.map Value.string).toArray) (h5 : 4 < n) => (by have q := HC.out V h 4 h5; rw [hs4] at q; exact q : V.cell? ⟨Wb, 4, none⟩ = some (.string s4)))
 clear hs1 hs2 hs3 hs4 HC HSG
 have hn1 : (1 : Int) < (n : Int) := by omega
 have hn2 : (2 : Int) < (n : Int) := by omega
 have hn3 : (3 : Int) < (n : Int) := by omega
 have hV := (Below.refl w.heap.size w).alloc (Nat.le_refl _) (.cells #[.int .i64 0, .string ⟨#[]⟩, .int .i64 0, .string ⟨#[]⟩, .int .i64 0] 80)
 have HE := Lib.hid (Blk.new w #[.int .i64 0, .string ⟨#[]⟩, .int .i64 0, .string ⟨#[]⟩, .int .i64 0] 80)
 have hgE : ∀ q ∈ Y ++ [z], (zoS q).ownBlock ≠ some w.heap.size := fun q hq e => by have := ((HW.out.M.hE q hq).lt _ e).2; omega
 have HgE := Lib.hid hgE
 have hbE := HW.out.h1
 have hWE : Wb ≠ w.heap.size := by have := HX.out.lt; omega
 have HWo := HW
 replace HW := Lib.hid (HW.out.step hV)
 clear hV hgE rc rl
 have rc := HW.out.R.cell
 have rl := HW.out.R.lt
 subst hop2
 have H45 := Lib.hid h45
 obtain ⟨Zb, cz, rfl⟩ : ∃ Zb cz, ZV = .slice (some ⟨Zb, 0, none⟩) (Y.length + 1) cz := by
  rcases HW.out.M.hZ.2 with h | ⟨g, c, cur, a1, _⟩
  ·exfalso; have := h.2; simp at this
  ·exact ⟨g, c, by rw [a1]; simp⟩
 clear h45
 go_enter Tryz.func54, Tryz.ntmps54
 go_upto_region 1 with fail
 clear rc rl
 have rc := HWo.out.R.cell
 have rl := HWo.out.R.lt
 go_cut [26] from 12 (fun v wx => v = .bool false ∧ wx = w)
 case first =>
  go_wp2_with fail
  all_goals go_meet
  all_goals first
   | exact ⟨rfl, rfl⟩
   | exact ⟨congrArg Value.bool (n45 H45.out), rfl⟩
   | (refine ⟨congrArg Value.bool ?_, rfl⟩; have h9 := H45.out; simp; omega)
   | (exfalso; have h9 := H45.out; omega)
 case rest =>
  clear rc rl HWo
  obtain ⟨hv, hwc⟩ := hcut
  subst hv
  have hwc2 := hwc.symm
  clear hwc
  subst hwc2
  go_upto_region 5 with fail
  obtain ⟨V0, hV0⟩ : ∃ V, w.alloc (.cells #[.int .i64 0, .string ⟨#[]⟩, .int .i64 0, .string ⟨#[]⟩, .int .i64 0] 80) = V := ⟨_, rfl⟩
  obtain ⟨X, hXe⟩ : ∃ X, w.heap.size = X := ⟨_, rfl⟩
  rw [hV0] at HW HE ⊢
  rw [hXe] at HE HgE hbE hWE ⊢
  clear hV0 hXe
  have xc := HX1.out _ (HW.out.S Wb _ HX.out)
  have xl := (HW.out.S Wb _ HX.out).lt
  have HSp := Lib.hid ((HP.out _ HW.out.L).S.span s1 (by omega))
  go_wp2_with fail
  refine HSp.out.mono ?_
  rintro e w7 ⟨v1, e1, rfl, ha, hb⟩
  have HA1 := Lib.hid ha
  replace HW := Lib.hid (HW.out.step hb)
  replace HE := Lib.hid (HE.out.step hb)
  clear hb ha HSp xc xl
  have ec := HE.out.cell
  have ez := HE.out.frz
  have el := HE.out.lt
  go_upto_region 6 with fail
  have HE9 := eb_0 HE.out v1
  replace HW := Lib.hid (HW.out.off HE.out hbE (by decide) (by decide) (by decide) (by decide) (Or.inr HgE.out) (by decide) 0 (.int .i64 v1))
  replace HE := Lib.hid HE9
  clear HE9
  obtain ⟨V1, hV1⟩ : ∃ V, w7.setCell ⟨X, 0, none⟩ (.int .i64 v1) = V := ⟨_, rfl⟩
  rw [hV1] at HW HE ⊢
  clear hV1 ec ez el
  refine wp_region_noPanic ?_
  refine wp_region_held_drew (S := fun W' : World => BpW w W' base rd RV (.slice (some ⟨Zb, 0, none⟩) (Y.length + 1) cz) LV 2 rs (Y ++ [z]) ls) (by kernel_rfl) (HW.out.step (Below.refl _ _).drew) (fun hHeld0 => ?_)
  have hHeld := hHeld0
  clear hHeld0
  refine wpAnyH_take (i := 0) (v := ?_) rfl (by kernel_rfl) (by kernel_rfl) (by kernel_rfl) (fun _ _ _ h => h) (Or.inl ⟨by rfl, ?_⟩) hHeld ?_
  rotate_left
  ·intro wq hSw
   go_simp
   try with_reducible rfl
  try simp only [Act.put, List.getElem_toArray, List.getElem_cons_succ, List.getElem_cons_zero, List.setIfInBounds_toArray, List.set_cons_zero, List.set_cons_succ]
  refine wpAnyH_take (i := 1) (v := ?_) rfl (by kernel_rfl) (by kernel_rfl) (by kernel_rfl) (fun _ _ _ h => h) (Or.inl ⟨by rfl, ?_⟩) hHeld ?_
  rotate_left
  ·intro wq hSw
   go_simp
   try with_reducible rfl
  try simp only [Act.put, List.getElem_toArray, List.getElem_cons_succ, List.getElem_cons_zero, List.setIfInBounds_toArray, List.set_cons_zero, List.set_cons_succ]
  refine wpAnyH_take (i := 2) (v := ?_) rfl (by kernel_rfl) (by kernel_rfl) (by kernel_rfl) (fun _ _ _ h => h) (Or.inl ⟨by rfl, ?_⟩) hHeld ?_
  rotate_left
  ·intro wq hSw
   have xc := HX2.out _ (hSw.S Wb _ HX.out)
   have xl := (hSw.S Wb _ HX.out).lt
   go_simp
   try with_reducible rfl
  try simp only [Act.put, List.getElem_toArray, List.getElem_cons_succ, List.getElem_cons_zero, List.setIfInBounds_toArray, List.set_cons_zero, List.set_cons_succ]
  refine wpAnyH_take (i := 3) (v := ?_) rfl (by kernel_rfl) (by kernel_rfl) (by kernel_rfl) (fun _ _ _ h => h) (Or.inl ⟨by rfl, ?_⟩) hHeld ?_
  rotate_left
  ·intro wq hSw
   go_simp
   try with_reducible rfl
  try simp only [Act.put, List.getElem_toArray, List.getElem_cons_succ, List.getElem_cons_zero, List.setIfInBounds_toArray, List.set_cons_zero, List.set_cons_succ]
  refine wpAnyH_take (i := 4) (v := ?_) rfl (by kernel_rfl) (by kernel_rfl) (by kernel_rfl) (fun _ _ _ h => h) (Or.inl ⟨by rfl, ?_⟩) hHeld ?_
  rotate_left
  ·intro wq hSw
   go_simp
   try with_reducible rfl
  try simp only [Act.put, List.getElem_toArray, List.getElem_cons_succ, List.getElem_cons_zero, List.setIfInBounds_toArray, List.set_cons_zero, List.set_cons_succ]
  refine wpAnyH_take (i := 5) (v := ?_) rfl (by kernel_rfl) (by kernel_rfl) (by kernel_rfl) (fun _ _ _ h => h) (Or.inl ⟨by rfl, ?_⟩) hHeld ?_
  rotate_left
  ·intro wq hSw
   have xc := HX3.out _ (hSw.S Wb _ HX.out)
   have xl := (hSw.S Wb _ HX.out).lt
   go_simp
   try with_reducible rfl
  try simp only [Act.put, List.getElem_toArray, List.getElem_cons_succ, List.getElem_cons_zero, List.setIfInBounds_toArray, List.set_cons_zero, List.set_cons_succ]
  refine wpAnyH_take (i := 6) (v := ?_) rfl (by kernel_rfl) (by kernel_rfl) (by kernel_rfl) (fun _ _ _ h => h) (Or.inl ⟨by rfl, ?_⟩) hHeld ?_
  rotate_left
  ·intro wq hSw
   go_simp
   try with_reducible rfl
  try simp only [Act.put, List.getElem_toArray, List.getElem_cons_succ, List.getElem_cons_zero, List.setIfInBounds_toArray, List.set_cons_zero, List.set_cons_succ]
  refine wpAnyH_ready (rs := [7]) (by kernel_rfl) (by simp) ?_
  refine AllReadyH.cons rfl (fun K hK => ?_) AllReadyH.nil
  have q1 := HE.out.drew.cell
  have q2 := HE.out.drew.frz
  have q3 := HE.out.drew.lt
  have hS8 := (HW.out.off HE.out hbE (by decide) (by decide) (by decide) (by decide) (Or.inr HgE.out) (by decide) 1 (.string s2)).step (Below.refl _ _).drew
  go_simp
  refine hK.out _ _ hS8 (fun hHeld2 => ?_)
  clear hK K q1 q2 q3 hHeld2 hHeld
  have hHeld := hS8
  clear hS8
  try simp only [Act.put, List.getElem_toArray, List.getElem_cons_succ, List.getElem_cons_zero, List.setIfInBounds_toArray, List.set_cons_zero, List.set_cons_succ]
  have HE6 := Lib.hid (eb_1 HE.out s2).drew
  refine wpAnyH_take (i := 8) (v := ?_) rfl (by kernel_rfl) (by kernel_rfl) (by kernel_rfl) (fun _ _ _ h => h) (Or.inl ⟨by rfl, ?_⟩) hHeld ?_
  rotate_left
  ·intro wq hSw
   go_simp
   try with_reducible rfl
  try simp only [Act.put, List.getElem_toArray, List.getElem_cons_succ, List.getElem_cons_zero, List.setIfInBounds_toArray, List.set_cons_zero, List.set_cons_succ]
  refine wpAnyH_ready (rs := [9]) (by kernel_rfl) (by simp) ?_
  refine AllReadyH.cons rfl (fun K hK => ?_) AllReadyH.nil
  have q1 := HE6.out.cell
  have q2 := HE6.out.frz
  have q3 := HE6.out.lt
  have hS8 := ((HW.out.off HE.out hbE (by decide) (by decide) (by decide) (by decide) (Or.inr HgE.out) (by decide) 1 (.string s2)).off (eb_1 HE.out s2) hbE (by decide) (by decide) (by decide) (by decide) (Or.inr HgE.out) (by decide) 3 (.string s3)).step (Below.refl _ _).drew
  go_simp
  refine hK.out _ _ hS8 (fun hHeld2 => ?_)
  clear hK K q1 q2 q3 hHeld2 hHeld
  have hHeld := hS8
  clear hS8
  try simp only [Act.put, List.getElem_toArray, List.getElem_cons_succ, List.getElem_cons_zero, List.setIfInBounds_toArray, List.set_cons_zero, List.set_cons_succ]
  have HE7 := Lib.hid (eb_3 (eb_1 HE.out s2) s3).drew
  refine wpAnyH_done (by kernel_rfl) ?_ _
  refine NoPanic.normal ?_
  replace HE := HE7
  replace HW := Lib.hid hHeld
  clear HE6 HE7 hHeld
  obtain ⟨V2, hV2⟩ : ∃ V, ((V1.setCell ⟨X, 1, none⟩ (.string s2)).setCell ⟨X, 3, none⟩ (.string s3)).drew = V := ⟨_, rfl⟩
  rw [hV2] at HW HE ⊢
  clear hV2
  have xc := HX2.out _ (HW.out.S Wb _ HX.out)
  have xl := (HW.out.S Wb _ HX.out).lt
  obtain ⟨ng, hng⟩ : ∃ ng, Lib.hasPrefix s2.data.toList (⟨#[45]⟩ : ByteArray).data.toList = ng := ⟨_, rfl⟩
  have HNG := Lib.hid (show isNeg s2 = ng from hng)
  obtain ⟨tt, htt⟩ : ∃ t : ByteArray, (⟨(Lib.trimPrefix s2.data.toList (⟨#[45]⟩ : ByteArray).data.toList).toArray⟩ : ByteArray) = t := ⟨_, rfl⟩
  have HTT := Lib.hid (show ng = true → tt = ⟨(s2.data.toList.drop 1).toArray⟩ from fun h => by rw [← htt, Lib.trimPrefix, hng, h]; rfl)
  have htz : tt.size ≤ 60000 := by
   have h1 : tt.size ≤ s2.size := by
    rw [← htt]
    show (Lib.trimPrefix s2.data.toList [45]).toArray.size ≤ s2.data.size
    unfold Lib.trimPrefix
    split <;> simp
   omega
  go_wp2_with fail
  refine (Tryz.strings_CutPrefix s2 ⟨#[45]⟩ V2).mono ?_
  rintro e w8 ⟨rfl, rfl⟩
  rw [hng, htt]
  clear hng htt
  go_upto_if 50 with fail
  clear xc xl
  go_cut [7] from 12 (fun v7 wx => ∃ (f7 sv : Int), v7 = .int .i64 f7 ∧ Hid (saveV F s2 = (sv, f7)) ∧ Hid (BpW w wx base rd RV (.slice (some ⟨Zb, 0, none⟩) (Y.length + 1) cz) LV 2 rs (Y ++ [z]) ls) ∧ Hid (Blk wx X 80 #[.int .i64 v1, .string (if ng = true then eMT else s2), .int .i64 sv, .string s3, .int .i64 0]))
  case first =>
   have HNo := Lib.hid (fun (h : eraG F ws) => (show (saveV F s2).2 = 0 from by have q := h.2.1; rw [HS2.out] at q; exact q))
   cases ng with
   | true =>
    have HSV := Lib.hid (show saveV F s2 = F.sp tt by unfold saveV; rw [HNG.out, if_pos rfl, HTT.out rfl])
    have ec := HE.out.cell
    have ez := HE.out.frz
    have el := HE.out.lt
    go_upto_region 10 with fail
    have HE9 := eb_1 HE.out ⟨#[]⟩
    replace HW := Lib.hid (HW.out.off HE.out hbE (by decide) (by decide) (by decide) (by decide) (Or.inr HgE.out) (by decide) 1 (.string ⟨#[]⟩))
    replace HE := Lib.hid HE9
    clear HE9
    obtain ⟨V3, hV3⟩ : ∃ V, w8.setCell ⟨X, 1, none⟩ (.string ⟨#[]⟩) = V := ⟨_, rfl⟩
    rw [hV3] at HW HE ⊢
    clear hV3 ec ez el
    have HSp := Lib.hid ((HP.out _ HW.out.L).S.span tt (by omega))
    go_wp2_with fail
    refine HSp.out.mono ?_
    rintro e w7 ⟨v2, f2, rfl, ha, hb⟩
    have HA2 := Lib.hid ha
    replace HW := Lib.hid (HW.out.step hb)
    replace HE := Lib.hid (HE.out.step hb)
    clear hb ha HSp
    have ec := HE.out.cell
    have ez := HE.out.frz
    have el := HE.out.lt
    go_wp2_with fail
    have HE9 := eb_2 HE.out v2
    replace HW := Lib.hid (HW.out.off HE.out hbE (by decide) (by decide) (by decide) (by decide) (Or.inr HgE.out) (by decide) 2 (.int .i64 v2))
    replace HE := Lib.hid HE9
    clear HE9
    clear ec ez el
    go_meet
    exact ⟨f2, v2, rfl, Lib.hid (by rw [HSV.out]; exact F.sp_eq HA2.out), HW, HE⟩
   | false =>
    have HIs := Lib.hid (u_IsName s2 (by unfold maxLen; omega) w8)
    have xc := HX2.out _ (HW.out.S Wb _ HX.out)
    have xl := (HW.out.S Wb _ HX.out).lt
    obtain ⟨nb, hnb⟩ : ∃ nb, isNameB s2.data.toList = nb := ⟨_, rfl⟩
    have HSV := Lib.hid (show saveV F s2 = (0, if nb = true then 0 else 3) by unfold saveV; rw [HNG.out, if_neg (by decide), hnb])
    rw [hnb] at HIs
    clear hnb
    go_wp2_with fail
    refine HIs.out.mono ?_
    rintro e w9 ⟨rfl, rfl⟩
    clear xc xl HIs
    cases nb with
    | false =>
     have HN2 := Lib.hid (fun (h : eraG F ws) => (show False from by have q := HNo.out h; rw [HSV.out] at q; cases q))
     have HL := Lib.hid HW.out.L
     go_wp2_with fail
     go_ret
     exact era_no HL.out (fun h => HN2.out h.2.2)
    | true =>
     go_wp2_with fail
     go_meet
     exact ⟨0, 0, rfl, Lib.hid HSV.out, HW, HE⟩
  case rest =>
   clear HW HE HTT
   obtain ⟨f7, sv, hv, HSV, HW, HE⟩ := hcut
   subst hv
   generalize wc = V4 at *
   obtain ⟨rl2, hrl2⟩ : ∃ x : ByteArray, (if ng = true then eMT else s2) = x := ⟨_, rfl⟩
   have HRL := Lib.hid hrl2
   rw [hrl2] at HE
   clear hrl2
   obtain ⟨sg', hsg'⟩ : ∃ x : Int, (if n = 5 then (2 : Int) else 1) = x := ⟨_, rfl⟩
   have HSG := Lib.hid hsg'
   clear hsg'
   go_upto_if 65 with fail
   go_cut [8] from 12 (fun v8 wx => ∃ (g8 un : Int), v8 = .int .i64 g8 ∧ Hid (untV F ws = (un, g8)) ∧ Hid (BpW w wx base rd RV (.slice (some ⟨Zb, 0, none⟩) (Y.length + 1) cz) LV sg' rs (Y ++ [z]) ls) ∧ Hid (Blk wx X 80 #[.int .i64 v1, .string rl2, .int .i64 sv, .string s3, .int .i64 un]))
   case first =>
    by_cases h5 : n = 5
    ·have HU := Lib.hid (show untV F ws = F.st s4 by unfold untV; rw [HNn.out, if_pos h5, HS4.out])
     have h5' : ((n : Int) == 5) = true := by rw [beq_iff_eq]; omega
     have hn4 : (4 : Int) < (n : Int) := by omega
     have hn4' : 4 < n := by omega
     have HG2 := Lib.hid (show sg' = 2 by rw [← HSG.out, if_pos h5])
     clear h5
     go_upto_region 14 with fail
     all_goals (try (exfalso; rw [beq_iff_eq] at h5'; omega))
     have xc := HX4.out _ (HW.out.S Wb _ HX.out) hn4'
     have xl := (HW.out.S Wb _ HX.out).lt
     have HSp := Lib.hid ((k_ReadStamp s4 (by omega) V4 (HP.out _ HW.out.L).S))
     go_wp2_with fail
     refine HSp.out.mono ?_
     rintro e w7 ⟨un, g8, rfl, ha, hb⟩
     have HA3 := Lib.hid ha
     replace HW := Lib.hid (HW.out.step hb)
     replace HE := Lib.hid (HE.out.step hb)
     clear hb ha HSp xc xl
     have ec := HE.out.cell
     have ez := HE.out.frz
     have el := HE.out.lt
     go_wp2_with fail
     have HE9 := eb_4 HE.out un
     replace HW := Lib.hid (HW.out.off HE.out hbE (by decide) (by decide) (by decide) (by decide) (Or.inr HgE.out) (by decide) 4 (.int .i64 un))
     replace HE := Lib.hid HE9
     clear HE9
     clear ec ez el
     go_meet
     exact ⟨g8, un, rfl, Lib.hid (by rw [HU.out]; exact F.st_eq HA3.out), Lib.hid (by rw [HG2.out]; exact HW.out), HE⟩
    ·have HU := Lib.hid (show untV F ws = (0, 0) by unfold untV; rw [HNn.out, if_neg h5])
     have h5' : ((n : Int) == 5) = false := by rw [beq_eq_false_iff_ne]; omega
     have HG2 := Lib.hid (show sg' = 1 by rw [← HSG.out, if_neg h5])
     have rc := HW.out.R.cell
     have rz := HW.out.R.frz
     have rl := HW.out.R.lt
     go_wp2_with fail
     all_goals (try (exfalso; omega))
     replace HE := Lib.hid (HE.out.far (a := ⟨rd, 3, none⟩) (HE.out.ne HW.out.R (by decide)) (.int .i64 1))
     replace HW := Lib.hid (HW.out.stg 1)
     go_meet
     exact ⟨0, 0, rfl, HU, Lib.hid (by rw [HG2.out]; exact HW.out), HE⟩
   case rest =>
    clear HW HE
    obtain ⟨g8, un, hv, HUN, HW, HE⟩ := hcut
    subst hv
    generalize wc = V5 at *
    have rc := HW.out.R.cell
    have rl := HW.out.R.lt
    have hwY : IntKind.i64.wrap (Y.length : Int) = (Y.length : Int) := IntWalk.i64_in _ (by have := HZL.out.1; simp at this; omega)
    have hy1 : (0 : Int) ≤ (Y.length : Int) := by omega
    have hy2 : (Y.length : Int) < (Y.length : Int) + 1 := by omega
    go_upto_region 16 with fail
    go_quiet (fail)
    rename_i nq
    have hVq := below_drewN (Below.refl V5.heap.size V5) nq
    replace HW := Lib.hid (HW.out.step hVq)
    replace HE := Lib.hid (HE.out.step hVq)
    clear hVq rc rl
    obtain ⟨V6, hV6⟩ : ∃ V6, V5.drewN nq = V6 := ⟨_, rfl⟩
    rw [hV6] at HW HE ⊢
    clear hV6
    go_upto_region 17 with fail
    have HEV := Lib.hid (show eraV F ws = ⟨v1, rl2, sv, s3, un⟩ by
     unfold eraV
     rw [HS1.out, HS2.out, HS3.out, HNG.out, HRL.out, HSV.out, HUN.out, F.sp_eq HA1.out])
    have HEG := Lib.hid (show eraG F ws ↔ (e1 = 0 ∧ f7 = 0 ∧ g8 = 0) by
     unfold eraG
     rw [HS1.out, HS2.out, HSV.out, HUN.out, F.sp_eq HA1.out])
    clear HSV HUN HRL
    obtain ⟨iE, hiE, he0, he1, he2⟩ := info_parts info_ErS
    have hzl := HZL.out.2 z (by simp)
    have HNX := Lib.hid (show X ≠ Zb from fun e => HE.out.own_ne HW.out.M.hZ (by decide) (by rw [e]; rfl))
    refine wp_region_noPanic ?_
    refine wp_region_held_drew (S := fun W' : World => Below base w W' ∧ Blk W' X 80 #[.int .i64 v1, .string rl2, .int .i64 sv, .string s3, .int .i64 un]) (by kernel_rfl) ⟨HW.out.L.drew, HE.out.drew⟩ (fun hHeld0 => ?_)
    have hHeld := hHeld0
    clear hHeld0
    have HW0 := Lib.hid (HW.out.step (Below.refl _ _).drew)
    obtain ⟨v0, hv0⟩ : ∃ x, V6.drew = x := ⟨_, rfl⟩
    rw [hv0] at hHeld HW0 ⊢
    clear hv0
    refine wpAnyH_take (i := 0) (v := ?_) rfl (by kernel_rfl) (by kernel_rfl) (by kernel_rfl) (fun _ _ _ h => h) (Or.inl ⟨by rfl, ?_⟩) hHeld ?_
    rotate_left
    ·intro wq hSw
     go_simp
     try with_reducible rfl
    try simp only [Act.put, List.getElem_toArray, List.getElem_cons_succ, List.getElem_cons_zero, List.setIfInBounds_toArray, List.set_cons_zero, List.set_cons_succ]
    refine wpAnyH_take (i := 1) (v := ?_) rfl (by kernel_rfl) (by kernel_rfl) (by kernel_rfl) (fun _ _ _ h => h) (Or.inl ⟨by rfl, ?_⟩) hHeld ?_
    rotate_left
    ·intro wq hSw
     go_simp
     try with_reducible rfl
    try simp only [Act.put, List.getElem_toArray, List.getElem_cons_succ, List.getElem_cons_zero, List.setIfInBounds_toArray, List.set_cons_zero, List.set_cons_succ]
    refine wpAnyH_take (i := 2) (v := ?_) rfl (by kernel_rfl) (by kernel_rfl) (by kernel_rfl) (fun _ _ _ h => h) (Or.inl ⟨by rfl, ?_⟩) hHeld ?_
    rotate_left
    ·intro wq hSw
     go_simp
     try with_reducible rfl
    try simp only [Act.put, List.getElem_toArray, List.getElem_cons_succ, List.getElem_cons_zero, List.setIfInBounds_toArray, List.set_cons_zero, List.set_cons_succ]
    refine wpAnyH_take (i := 3) (v := ?_) rfl (by kernel_rfl) (by kernel_rfl) (by kernel_rfl) (fun _ _ _ h => h) (Or.inl ⟨by rfl, ?_⟩) hHeld ?_
    rotate_left
    ·intro wq hSw
     go_simp
     try with_reducible rfl
    try simp only [Act.put, List.getElem_toArray, List.getElem_cons_succ, List.getElem_cons_zero, List.setIfInBounds_toArray, List.set_cons_zero, List.set_cons_succ]
    refine wpAnyH_take (i := 5) (v := ?_) rfl (by kernel_rfl) (by kernel_rfl) (by kernel_rfl) (fun _ _ _ h => h) (Or.inl ⟨by rfl, ?_⟩) hHeld ?_
    rotate_left
    ·intro wq hSw
     have xc := hSw.2.cell
     have xl := hSw.2.lt
     go_simp
     try with_reducible rfl
    try simp only [Act.put, List.getElem_toArray, List.getElem_cons_succ, List.getElem_cons_zero, List.setIfInBounds_toArray, List.set_cons_zero, List.set_cons_succ]
    refine wpAnyH_ready (rs := [4, 6]) (by kernel_rfl) (by simp) ?_
    refine AllReadyH.cons rfl (fun K hK => ?_) (AllReadyH.cons rfl (fun K hK => ?_) AllReadyH.nil)
    ·skip
     obtain ⟨zc, zf, zl⟩ := zo_last HW0.out.M
     go_simp
     refine hK.out _ _ hHeld (fun hHeld2 => ?_)
     clear hK K hHeld2 zc zf zl
     try simp only [Act.put, List.getElem_toArray, List.getElem_cons_succ, List.getElem_cons_zero, List.setIfInBounds_toArray, List.set_cons_zero, List.set_cons_succ]
     refine wpAnyH_ready (rs := [6]) (by kernel_rfl) (by simp) ?_
     refine AllReadyH.cons rfl (fun K hK => ?_) AllReadyH.nil
     have hS8 := And.intro (hHeld.1.alloc HW0.out.h1 (.cells #[.int .i64 v1, .string rl2, .int .i64 sv, .string s3, .int .i64 un] 80)) (hHeld.2.alloc (.cells #[.int .i64 v1, .string rl2, .int .i64 sv, .string s3, .int .i64 un] 80))
     go_simp
     refine hK.out _ _ hS8 (fun hHeld2 => ?_)
     clear hK K hHeld hHeld2
     have hHeld := hS8
     clear hS8
     try simp only [Act.put, List.getElem_toArray, List.getElem_cons_succ, List.getElem_cons_zero, List.setIfInBounds_toArray, List.set_cons_zero, List.set_cons_succ]
     refine wpAnyH_ready (rs := [7]) (by kernel_rfl) (by simp) ?_
     refine AllReadyH.cons rfl (fun K hK => ?_) AllReadyH.nil
     have hM1 := HW0.out.M.step ((Below.refl _ _).alloc (Nat.le_refl _) (.cells #[.int .i64 v1, .string rl2, .int .i64 sv, .string s3, .int .i64 un] 80))
     have hzv := HW0.out.h1
     refine step_append_lies _ (by rfl) _ _ _ (by rfl) base 80 iE _ 5 56 Tryz.underlying73 hiE he0 he1 he2 rfl (by omega) (zoS z) z.eras.length _ (by rfl) (hM1.hE z (by simp)) ⟨v0.heap.size, 0, none⟩ 1 1 (erC (⟨v1, rl2, sv, s3, un⟩ : ErT)) (by rfl) (by rfl) (World.news_of_block (cs := (erC (⟨v1, rl2, sv, s3, un⟩ : ErT)).toArray) (t := 80) (fr := (0, 0)) (heap_alloc_new v0 _)) (by simp [Value.oneCell', erC]) (by omega) (by unfold maxLen; omega) (by omega) (by simp; omega) (v0.heap.size + 1) (by simp) ?_; intro gg cap2 w6 hown1 hgrow hat hlt6
     have hF := era_fin (v0 := v0) HW0.out hown1 hgrow hat
     obtain ⟨zc, zf, zl, hb6, hx6, hFin⟩ := hF
     have hX6 := hx6 X #[.int .i64 v1, .string rl2, .int .i64 sv, .string s3, .int .i64 un] hHeld.2 HgE.out
     refine hK.out _ _ ⟨hb6, hX6⟩ (fun hHeld2 => ?_)
     clear hK K hHeld hHeld2
     try simp only [Act.put, List.getElem_toArray, List.getElem_cons_succ, List.getElem_cons_zero, List.setIfInBounds_toArray, List.set_cons_zero, List.set_cons_succ]
     have hHeld := And.intro hb6 hX6
     refine wpAnyH_take (i := 8) (v := ?_) rfl (by kernel_rfl) (by kernel_rfl) (by kernel_rfl) (fun _ _ _ h => h) (Or.inl ⟨by rfl, ?_⟩) hHeld ?_
     rotate_left
     ·intro wq hSw
      go_simp
      try with_reducible rfl
     try simp only [Act.put, List.getElem_toArray, List.getElem_cons_succ, List.getElem_cons_zero, List.setIfInBounds_toArray, List.set_cons_zero, List.set_cons_succ]
     refine wpAnyH_take (i := 9) (v := ?_) rfl (by kernel_rfl) (by kernel_rfl) (by kernel_rfl) (fun _ _ _ h => h) (Or.inl ⟨by rfl, ?_⟩) hHeld ?_
     rotate_left
     ·intro wq hSw
      go_simp
      try with_reducible rfl
     try simp only [Act.put, List.getElem_toArray, List.getElem_cons_succ, List.getElem_cons_zero, List.setIfInBounds_toArray, List.set_cons_zero, List.set_cons_succ]
     refine wpAnyH_ready (rs := [10]) (by kernel_rfl) (by simp) ?_
     refine AllReadyH.cons rfl (fun K hK => ?_) AllReadyH.nil
     have hS8 := And.intro (hFin.L) (hX6.far (a := ⟨Zb, Y.length * 2 + 1, none⟩) (HNX.out) (.slice (some ⟨gg, 0, none⟩) (z.eras.length + 1) cap2))
     go_simp
     refine hK.out _ _ hS8 (fun hHeld2 => ?_)
     clear hK K hHeld hHeld2 hS8
     try simp only [Act.put, List.getElem_toArray, List.getElem_cons_succ, List.getElem_cons_zero, List.setIfInBounds_toArray, List.set_cons_zero, List.set_cons_succ]
     refine wpAnyH_done (by kernel_rfl) ?_ _
     refine NoPanic.normal ?_
     have HFin := Lib.hid hFin
     clear hFin zc zf zl hb6 hx6 hX6 hown1 hgrow hat hlt6 hM1 HW0 HW HE
     obtain ⟨V7, hV7⟩ : ∃ V, w6.setCell ⟨Zb, Y.length * 2 + 1, none⟩ (.slice (some ⟨gg, 0, none⟩) (z.eras.length + 1) cap2) = V := ⟨_, rfl⟩
     rw [hV7] at HFin ⊢
     clear hV7
     go_upto_region 18 with fail
     by_cases q1 : e1 = 0
     ·subst q1
      by_cases q2 : f7 = 0
      ·subst q2
       by_cases q3 : g8 = 0
       ·subst q3
        have HYes := Lib.hid (era_yes (F := F) (op := true) (ws := ws) rfl (by rw [HNn.out]; exact H45.out) (HEG.out.2 ⟨rfl, rfl, rfl⟩) (by rw [HEV.out, HNn.out, HSG.out]; exact HFin.out))
        go_wp2_with fail
        go_ret
        exact HYes.out
       ·have q' : (g8 == 0) = false := by rw [beq_eq_false_iff_ne]; exact q3
        have HNo := Lib.hid (fun (h : eraG F ws) => q3 (HEG.out.1 h).2.2)
        have HL := Lib.hid HFin.out.L
        clear q3
        go_wp2_with fail
        go_ret
        exact era_no HL.out (fun h => HNo.out h.2.2)
      ·have q' : (f7 == 0) = false := by rw [beq_eq_false_iff_ne]; exact q2
       have HNo := Lib.hid (fun (h : eraG F ws) => q2 (HEG.out.1 h).2.1)
       have HL := Lib.hid HFin.out.L
       clear q2
       go_wp2_with fail
       go_ret
       exact era_no HL.out (fun h => HNo.out h.2.2)
     ·have q' : (e1 == 0) = false := by rw [beq_eq_false_iff_ne]; exact q1
      have HNo := Lib.hid (fun (h : eraG F ws) => q1 (HEG.out.1 h).1)
      have HL := Lib.hid HFin.out.L
      clear q1
      go_wp2_with fail
      go_ret
      exact era_no HL.out (fun h => HNo.out h.2.2)
    have hS8 := And.intro (hHeld.1.alloc HW0.out.h1 (.cells #[.int .i64 v1, .string rl2, .int .i64 sv, .string s3, .int .i64 un] 80)) (hHeld.2.alloc (.cells #[.int .i64 v1, .string rl2, .int .i64 sv, .string s3, .int .i64 un] 80))
    go_simp
    refine hK.out _ _ hS8 (fun hHeld2 => ?_)
    clear hK K hHeld hHeld2
    have hHeld := hS8
    clear hS8
    try simp only [Act.put, List.getElem_toArray, List.getElem_cons_succ, List.getElem_cons_zero, List.setIfInBounds_toArray, List.set_cons_zero, List.set_cons_succ]
    refine wpAnyH_ready (rs := [4]) (by kernel_rfl) (by simp) ?_
    refine AllReadyH.cons rfl (fun K hK => ?_) AllReadyH.nil
    obtain ⟨zc, zf, zl⟩ := zo_last (HW0.out.M.step ((Below.refl _ _).alloc (Nat.le_refl _) (.cells #[.int .i64 v1, .string rl2, .int .i64 sv, .string s3, .int .i64 un] 80)))
    go_simp
    refine hK.out _ _ hHeld (fun hHeld2 => ?_)
    clear hK K hHeld2 zc zf zl
    try simp only [Act.put, List.getElem_toArray, List.getElem_cons_succ, List.getElem_cons_zero, List.setIfInBounds_toArray, List.set_cons_zero, List.set_cons_succ]
    refine wpAnyH_ready (rs := [7]) (by kernel_rfl) (by simp) ?_
    refine AllReadyH.cons rfl (fun K hK => ?_) AllReadyH.nil
    have hM1 := HW0.out.M.step ((Below.refl _ _).alloc (Nat.le_refl _) (.cells #[.int .i64 v1, .string rl2, .int .i64 sv, .string s3, .int .i64 un] 80))
    have hzv := HW0.out.h1
    refine step_append_lies _ (by rfl) _ _ _ (by rfl) base 80 iE _ 5 56 Tryz.underlying73 hiE he0 he1 he2 rfl (by omega) (zoS z) z.eras.length _ (by rfl) (hM1.hE z (by simp)) ⟨v0.heap.size, 0, none⟩ 1 1 (erC (⟨v1, rl2, sv, s3, un⟩ : ErT)) (by rfl) (by rfl) (World.news_of_block (cs := (erC (⟨v1, rl2, sv, s3, un⟩ : ErT)).toArray) (t := 80) (fr := (0, 0)) (heap_alloc_new v0 _)) (by simp [Value.oneCell', erC]) (by omega) (by unfold maxLen; omega) (by omega) (by simp; omega) (v0.heap.size + 1) (by simp) ?_; intro gg cap2 w6 hown1 hgrow hat hlt6
    have hF := era_fin (v0 := v0) HW0.out hown1 hgrow hat
    obtain ⟨zc, zf, zl, hb6, hx6, hFin⟩ := hF
    have hX6 := hx6 X #[.int .i64 v1, .string rl2, .int .i64 sv, .string s3, .int .i64 un] hHeld.2 HgE.out
    refine hK.out _ _ ⟨hb6, hX6⟩ (fun hHeld2 => ?_)
    clear hK K hHeld hHeld2
    try simp only [Act.put, List.getElem_toArray, List.getElem_cons_succ, List.getElem_cons_zero, List.setIfInBounds_toArray, List.set_cons_zero, List.set_cons_succ]
    have hHeld := And.intro hb6 hX6
    refine wpAnyH_take (i := 8) (v := ?_) rfl (by kernel_rfl) (by kernel_rfl) (by kernel_rfl) (fun _ _ _ h => h) (Or.inl ⟨by rfl, ?_⟩) hHeld ?_
    rotate_left
    ·intro wq hSw
     go_simp
     try with_reducible rfl
    try simp only [Act.put, List.getElem_toArray, List.getElem_cons_succ, List.getElem_cons_zero, List.setIfInBounds_toArray, List.set_cons_zero, List.set_cons_succ]
    refine wpAnyH_take (i := 9) (v := ?_) rfl (by kernel_rfl) (by kernel_rfl) (by kernel_rfl) (fun _ _ _ h => h) (Or.inl ⟨by rfl, ?_⟩) hHeld ?_
    rotate_left
    ·intro wq hSw
     go_simp
     try with_reducible rfl
    try simp only [Act.put, List.getElem_toArray, List.getElem_cons_succ, List.getElem_cons_zero, List.setIfInBounds_toArray, List.set_cons_zero, List.set_cons_succ]
    refine wpAnyH_ready (rs := [10]) (by kernel_rfl) (by simp) ?_
    refine AllReadyH.cons rfl (fun K hK => ?_) AllReadyH.nil
    have hS8 := And.intro (hFin.L) (hX6.far (a := ⟨Zb, Y.length * 2 + 1, none⟩) (HNX.out) (.slice (some ⟨gg, 0, none⟩) (z.eras.length + 1) cap2))
    go_simp
    refine hK.out _ _ hS8 (fun hHeld2 => ?_)
    clear hK K hHeld hHeld2 hS8
    try simp only [Act.put, List.getElem_toArray, List.getElem_cons_succ, List.getElem_cons_zero, List.setIfInBounds_toArray, List.set_cons_zero, List.set_cons_succ]
    refine wpAnyH_done (by kernel_rfl) ?_ _
    refine NoPanic.normal ?_
    have HFin := Lib.hid hFin
    clear hFin zc zf zl hb6 hx6 hX6 hown1 hgrow hat hlt6 hM1 HW0 HW HE
    obtain ⟨V7, hV7⟩ : ∃ V, w6.setCell ⟨Zb, Y.length * 2 + 1, none⟩ (.slice (some ⟨gg, 0, none⟩) (z.eras.length + 1) cap2) = V := ⟨_, rfl⟩
    rw [hV7] at HFin ⊢
    clear hV7
    go_upto_region 18 with fail
    by_cases q1 : e1 = 0
    ·subst q1
     by_cases q2 : f7 = 0
     ·subst q2
      by_cases q3 : g8 = 0
      ·subst q3
       have HYes := Lib.hid (era_yes (F := F) (op := true) (ws := ws) rfl (by rw [HNn.out]; exact H45.out) (HEG.out.2 ⟨rfl, rfl, rfl⟩) (by rw [HEV.out, HNn.out, HSG.out]; exact HFin.out))
       go_wp2_with fail
       go_ret
       exact HYes.out
      ·have q' : (g8 == 0) = false := by rw [beq_eq_false_iff_ne]; exact q3
       have HNo := Lib.hid (fun (h : eraG F ws) => q3 (HEG.out.1 h).2.2)
       have HL := Lib.hid HFin.out.L
       clear q3
       go_wp2_with fail
       go_ret
       exact era_no HL.out (fun h => HNo.out h.2.2)
     ·have q' : (f7 == 0) = false := by rw [beq_eq_false_iff_ne]; exact q2
      have HNo := Lib.hid (fun (h : eraG F ws) => q2 (HEG.out.1 h).2.1)
      have HL := Lib.hid HFin.out.L
      clear q2
      go_wp2_with fail
      go_ret
      exact era_no HL.out (fun h => HNo.out h.2.2)
    ·have q' : (e1 == 0) = false := by rw [beq_eq_false_iff_ne]; exact q1
     have HNo := Lib.hid (fun (h : eraG F ws) => q1 (HEG.out.1 h).1)
     have HL := Lib.hid HFin.out.L
     clear q1
     go_wp2_with fail
     go_ret
     exact era_no HL.out (fun h => HNo.out h.2.2)
end Go.Proofs.YthppifcggmdmoaaGreatDoor

