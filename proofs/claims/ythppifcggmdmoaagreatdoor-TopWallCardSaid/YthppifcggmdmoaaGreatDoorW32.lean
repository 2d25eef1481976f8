/- Part 32 of the proof of TopWall: no condition; what its declarations say stands at each. -/
import Derived.Test.YthppifcggmdmoaaGreatDoorW30
import Derived.Test.YthppifcggmdmoaaGreatDoorW31
import Derived.Test.YthppifcggmdmoaaGreatDoorW17
namespace Go.Proofs.YthppifcggmdmoaaGreatDoor
open Go.RowKit
set_option linter.unusedVariables false
abbrev NmZ := Int × Nat × RuT
def fPz (z : NmZ) : Nm := (z.1, some ⟨z.2.1, 0, none⟩)
def fRz (z : NmZ) : Int × RuT := (z.1, z.2.2)
def NmRow (w : World) (base : Nat) (v : Value) (Z : List NmZ) : Prop := w.ownsRow base 187 2 v Z.length ((Z.map fPz).map nmC).flatten
def ZB (w : World) (Z : List NmZ) : Prop := ∀ z ∈ Z, Blk w z.2.1 70 (ruA z.2.2)
theorem ZB.step {w w' : World} {Z : List NmZ} (h : ZB w Z) (hb : Below w.heap.size w w') : ZB w' Z := fun z hz => (h z hz).step hb
theorem ZB.grown {w w' : World} {base : Nat} {v : Value} {Z Z2 : List NmZ} (h : ZB w Z) (ho : NmRow w base v Z2) (hg : w.grownBy w' v.ownBlock) : ZB w' Z :=
 fun z hz => (h z hz).grown hg (Blk.own_ne (h z hz) ho (by decide))
theorem info_Nominal : (Tryz.prog.info? 187).map (fun i => (i.zero, i.size, i.bytes)) = some (some (.agg #[.int .i64 0, .pointer none]), 2, 16) := by kernel_rfl
def zsR (r : RuT) (g j : Nat) : List NmZ := (List.range j).map fun (i : Nat) => (ruT r (r.f + (i : Int)), g, r)
theorem zsR_succ (r : RuT) (g j : Nat) : zsR r g (j + 1) = zsR r g j ++ [(ruT r (r.f + (j : Int)), g, r)] := by simp [zsR, List.range_succ]
theorem zsR_all (r : RuT) (g : Nat) : (zsR r g (ruN r)).map fRz = nomR r := by simp [zsR, nomR, fRz]
theorem nmrow_snoc (Z : List NmZ) (z : NmZ) : (((Z ++ [z]).map fPz).map nmC).flatten = ((Z.map fPz).map nmC).flatten ++ [.int .i64 z.1, .pointer (some ⟨z.2.1, 0, none⟩)] := by simp [fPz, nmC]
def TuPost (rs : List RuT) (nm : ByteArray) (off : Int) (w : World) (e : Ending) (w' : World) : Prop :=
 ∃ v, e = .returned (.tuple #[v, .int .i64 (turnE rs nm off)]) ∧ w'.ownsRow w.heap.size 149 3 v (turnL rs nm off).length ((turnL rs nm off).map tuCells).flatten ∧ Below w.heap.size w w'
theorem tu_bad {rs : List RuT} {nm : ByteArray} {off x : Int} {w w' : World} (h : turnE rs nm off = x ∧ turnL rs nm off = []) (hb : Below w.heap.size w w') : TuPost rs nm off w (.returned (.tuple #[.slice none 0 0, .int .i64 x])) w' :=
 ⟨_, by rw [h.1], by rw [h.2]; exact World.ownsRow_nil _ _ _ _, hb⟩
theorem tuW (wr : World) (T A sv : Int) (l : ByteArray) (g : Nat) (W : World) (hW : ((wr.alloc (.cells #[.int .i64 T, .pointer (some ⟨g, 0, none⟩)] 187)).alloc (.cells #[.int .i64 A, .int .i64 sv, .string l] 149)).drew = W) :
  Blk W (wr.heap.size + 1) 149 #[.int .i64 A, .int .i64 sv, .string l] ∧ W.cell? ⟨wr.heap.size, 1, none⟩ = some (.pointer (some ⟨g, 0, none⟩)) ∧ Below wr.heap.size wr W := by
 subst hW
 refine ⟨(Blk.new' _ _ _ (by rw [size_alloc])).drew, ?_, ?_⟩
 ·have h := (((Blk.new wr #[.int .i64 T, .pointer (some ⟨g, 0, none⟩)] 187).alloc (.cells #[.int .i64 A, .int .i64 sv, .string l] 149)).drew).cell 1
  exact h
 ·exact (((Below.refl _ _).alloc (Nat.le_refl _) _).alloc (by rw [size_alloc]; omega) _).drew
theorem ZB.grownT {w w' : World} {base : Nat} {v : Value} {Z : List NmZ} {n : Nat} {xs : List Value} (h : ZB w Z) (ho : w.ownsRow base 149 3 v n xs) (hg : w.grownBy w' v.ownBlock) : ZB w' Z :=
 fun z hz => (h z hz).grown hg (Blk.own_ne (h z hz) ho (by decide))
theorem info_Turn : (Tryz.prog.info? 149).map (fun i => (i.zero, i.size, i.bytes)) = some (some (.agg #[.int .i64 0, .int .i64 0, .string ⟨#[]⟩]), 3, 32) := by kernel_rfl
theorem tu_len3 (l : List TuT) : ∀ xs ∈ l.map tuCells, xs.length = 3 := by intro xs hx; obtain ⟨t, _, rfl⟩ := List.mem_map.1 hx; rfl
def srtZ (Z : List NmZ) : List NmZ := ssort (fun z => z.1) Z
theorem srtZ_fP (Z : List NmZ) : ssort Prod.fst (Z.map fPz) = (srtZ Z).map fPz := ssort_map fPz Prod.fst _ Z rfl
theorem srtZ_fR (Z : List NmZ) : ssort Prod.fst (Z.map fRz) = (srtZ Z).map fRz := ssort_map fRz Prod.fst _ Z rfl
theorem srtZ_len (Z : List NmZ) : (srtZ Z).length = Z.length := ssort_len _ _ Z rfl
theorem srtZ_B {w : World} {Z : List NmZ} (h : ZB w Z) : ZB w (srtZ Z) := fun z hz => h z ((ssort_mem _ _ Z rfl z).1 hz)
set_option maxRecDepth 100000 in
set_option maxHeartbeats 8000000 in
theorem t_Make (AR : Option Addr) (cR n : Nat) (rs : List RuT) (nm : ByteArray) (off : Int) (w : World) (hn : rs.length = n) (hA : SlAt w w.heap.size 11 AR (rs.map ruC)) (h1 : n ≤ cR) (m1 : cR ≤ maxLen) (h40 : n ≤ 40) (hb : ∀ r ∈ rs, RuB r) (ho1 : -100000 ≤ off) (ho2 : off ≤ 100000) :
  Calls Tryz.prog 81 #[.slice AR n cR, .string nm, .int .i64 off] w (TuPost rs nm off w) := by
 unfold maxLen at m1
 obtain ⟨i0, hi0, hz0, hz1, hz2⟩ := info_parts info_Nominal
 obtain ⟨iT, hiT, hy0, hy1, hy2⟩ := info_parts info_Turn
 have HN := Lib.hid hn
 have HR := Lib.hid hb
 clear hn hb
 go_enter Tryz.func81, Tryz.ntmps81
 go_wp2_with fail
 go_loopw [8, 9, 10, 23] (fun v y q i wr => ∃ (k yr : Nat) (b : Bool) (Z : List NmZ), k ≤ n ∧ y = .int .i64 yr ∧ q = .bool b ∧ i = .int .i64 k ∧ yr ≤ 201 * k ∧ Z.length ≤ 1500 ∧ (yr ≤ 1500 → Z.length = yr) ∧ Hid (b = decide (fil (rs.take k) nm ≠ [])) ∧ Hid (yr = yrsN (fil (rs.take k) nm)) ∧ Hid (yr ≤ 1500 → Z.map fRz = noms (fil (rs.take k) nm)) ∧ Hid (NmRow wr w.heap.size v Z) ∧ Hid (ZB wr Z) ∧ Below w.heap.size w wr) (fun _ _ _ i _ => n - (intOf i).toNat)
 case atStart => exact ⟨0, 0, false, [], Nat.zero_le _, rfl, rfl, rfl, Nat.le_refl _, by decide, fun _ => rfl, Lib.hid (by simp [fil]), Lib.hid rfl, Lib.hid (fun _ => rfl), Lib.hid (World.ownsRow_nil _ _ _ _), Lib.hid (by intro z hz; cases hz), Below.refl _ _⟩
 case round =>
  obtain ⟨k, yr, b, Z, hk, rfl, rfl, rfl, hyr, hZ, hZy, HQ, HY, HM, HO, HZ, hB⟩ := hrel
  by_cases hlt : k < n
  ·have hlr : k < rs.length := by rw [HN.out]; exact hlt
   obtain ⟨bA, o, rfl, hbb, c0, c1, c2, c3, c4, c5, c6, c7, c8, c9, c10⟩ := ru_at (hA.below hB) hlr
   have hz := hB.size
   have hb' : bA < wr.heap.size := by omega
   have hi1 : (0 : Int) ≤ (k : Int) := by omega
   have hi2 : (k : Int) < (n : Int) := by omega
   have HF := Lib.hid (fil_succ (nm := nm) hlr)
   obtain ⟨r, hr⟩ : ∃ r, rs[k] = r := ⟨_, rfl⟩
   have hRB : RuB r := by rw [← hr]; exact HR.out _ (List.getElem_mem _)
   rw [hr] at c0 c1 c2 c3 c4 c5 c6 c7 c8 c9 c10 HF
   have HB := Lib.hid (hB.alloc (o := .cells (ruA r) 70) hB.size)
   obtain ⟨F, hF⟩ : ∃ F, fil (rs.take k) nm = F := ⟨_, rfl⟩
   rw [hF] at HQ HY HM HF
   clear hr hF
   cases hs : sEq r.name nm with
   | true =>
    have hq : (r.name.toList == nm.toList) = true := hs
    have hq2 : (r.name.toList != nm.toList) = false := by rw [bne, hq]; rfl
    have HF2 := Lib.hid (show fil (rs.take (k + 1)) nm = F ++ [r] by rw [HF.out, hs]; rfl)
    clear hs HF
    obtain ⟨N, hNr⟩ : ∃ N, ruN r = N := ⟨_, rfl⟩
    have hN3 := hRB.n
    rw [hNr] at hN3
    obtain ⟨hN0, hN1, hN2⟩ := hN3
    have HNr := Lib.hid hNr
    have HRB := Lib.hid hRB
    obtain ⟨⟨q1, q2, q3⟩, ⟨q4, q5⟩, q6, q7⟩ := hRB
    clear hNr q6 q7
    have ey : (yr : Int) + (r.t - r.f + 1) = ((yr + N : Nat) : Int) := by omega
    obtain ⟨yr2, hy2⟩ : ∃ y, yr + N = y := ⟨_, rfl⟩
    rw [hy2] at ey
    have HB1 := Lib.hid (Blk.new wr (ruA r) 70)
    have HO1 := Lib.hid (show NmRow (wr.alloc (.cells (ruA r) 70)) w.heap.size u8 Z from World.ownsRow.alloc HO.out _)
    have HZ1 := Lib.hid (show ZB (wr.alloc (.cells (ruA r) 70)) Z from HZ.out.step ((Below.refl _ _).alloc (Nat.le_refl _) _))
    have kr := (Blk.new wr (ruA r) 70).cell
    by_cases hbig : 1500 < yr2
    ·have hbig' : (1500 : Int) < (yr2 : Int) := by omega
     go_wp2_with fail
     exact ⟨⟨k + 1, yr2, true, Z, by omega, rfl, rfl, by go_num, by omega, hZ, fun h => by omega, Lib.hid (by rw [HF2.out]; simp), Lib.hid (by rw [HF2.out, yrsN_snoc, HNr.out, ← HY.out]; omega), Lib.hid (fun h => by omega), HO1, HZ1, HB.out⟩, by simp [intOf]; omega⟩
    ·as_aux_lemma =>
     have hbig' : ¬ (1500 : Int) < (yr2 : Int) := by omega
     have hyl : yr ≤ 1500 := by omega
     have HZl := Lib.hid (hZy hyl)
     have HMM := Lib.hid (HM.out hyl)
     have HB0 := HB
     clear hB HO HZ
     go_wp2_with fail
     clear c0 c1 c2 c3 c4 c5 c6 c7 c8 c9 c10 kr hq hq2
     obtain ⟨g, hg⟩ : ∃ g, wr.heap.size = g := ⟨_, rfl⟩
     rw [hg] at HB1 ⊢
     obtain ⟨wx, hwx⟩ : ∃ wx, wr.alloc (.cells (ruA r) 70) = wx := ⟨_, rfl⟩
     rw [hwx] at HB1 HO1 HZ1 HB0 ⊢
     clear hwx HB
     go_loopw [8, 13] (fun v y wq => ∃ (j : Nat) (d : Int), j ≤ N ∧ d = r.f + j ∧ y = .int .i64 d ∧ Hid (NmRow wq w.heap.size v (Z ++ zsR r g j)) ∧ Hid (ZB wq (Z ++ zsR r g j)) ∧ Hid (Blk wq g 70 (ruA r)) ∧ Hid (Below w.heap.size w wq)) (fun _ y _ => (r.t + 1 - intOf y).toNat)
     case atStart => exact ⟨0, _, Nat.zero_le _, rfl, by simp, Lib.hid (by simpa [zsR] using HO1.out), Lib.hid (by simpa [zsR] using HZ1.out), HB1, HB0⟩
     case round =>
      clear HB0 HB1 HO1 HZ1
      obtain ⟨j, d, hj, hd, rfl, HO, HZ, HG, HB⟩ := hrel
      have kr := HG.out.cell
      by_cases hjN : j < N
      ·have hdt : d ≤ r.t := by omega
       have HC := Lib.hid (d_Of d r.m r.k r.wd r.n wr)
       have hD := dofV_bd d r.m r.k r.wd r.n
       have HTd := Lib.hid (show 86400 * dofV d r.m r.k r.wd r.n + r.a = ruT r d from rfl)
       have HSc := Lib.hid (show zsR r g (j + 1) = zsR r g j ++ [(ruT r d, g, r)] by rw [hd]; exact zsR_succ r g j)
       have HD := Lib.hid hd
       obtain ⟨D, hDD⟩ : ∃ D, dofV d r.m r.k r.wd r.n = D := ⟨_, rfl⟩
       obtain ⟨T, hT⟩ : ∃ T, ruT r d = T := ⟨_, rfl⟩
       rw [hDD] at HC hD HTd
       rw [hT] at HTd HSc
       clear hDD hT hd
       go_wp2_with fail
       refine HC.out.mono ?_
       rintro e w5 ⟨rfl, hb5⟩
       have HO5 := Lib.hid (show NmRow w5 w.heap.size u8 (Z ++ zsR r g j) from own_step HO.out hb5)
       have HZ5 := Lib.hid (HZ.out.step hb5)
       have HG5 := Lib.hid (HG.out.step hb5)
       have HB5 := Lib.hid (HB.out.trans (hb5.mono HB.out.size))
       clear HC kr HO HZ HG HB hb5
       have kr := HG5.out.cell
       have eT : 86400 * D + r.a = T := HTd.out
       obtain ⟨hD1, hD2⟩ := hD
       obtain ⟨Y, hY⟩ : ∃ Y, Z ++ zsR r g j = Y := ⟨_, rfl⟩
       rw [hY] at HO5 HZ5
       have hYl : Y.length ≤ 1500 := by rw [← hY, List.length_append]; have := HZl.out; simp [zsR]; omega
       have HYY := Lib.hid hY
       clear hY
       have hsz : w.heap.size ≤ w5.heap.size := HB5.out.size
       have hwd : IntKind.i64.wrap (d + 1) = d + 1 := IntWalk.i64_in _ (by have := HD.out; omega)
       go_wp2_with (at_builtin; refine wpList_append_lies _ rfl _ _ _ rfl w.heap.size 187 i0 _ 2 16 Tryz.underlying183 hi0 hz0 hz1 hz2 rfl (by omega) u8 Y.length _ rfl (World.ownsRow.alloc HO5.out _) ⟨w5.heap.size, 0, none⟩ 1 1 [.int .i64 T, .pointer (some ⟨g, 0, none⟩)] rfl rfl (World.news_of_block (cs := #[.int .i64 T, .pointer (some ⟨g, 0, none⟩)]) (t := 187) (fr := (0, 0)) (Blk.new' _ _ _ (by simp))) (by simp [Value.oneCell']) (by omega) (by unfold maxLen; omega) (by omega) (by simp; omega) (w5.heap.size + 1) (by simp) ?_; intro gg cap2 w9 hown1 hgrow hat hlt9)
       have hwa := (Below.refl w5.heap.size w5).alloc (Nat.le_refl _) (.cells #[.int .i64 T, .pointer (some ⟨g, 0, none⟩)] 187)
       have hoa : NmRow (w5.alloc (.cells #[.int .i64 T, .pointer (some ⟨g, 0, none⟩)] 187)) w.heap.size u8 Y := World.ownsRow.alloc HO5.out _
       have hG9 := Lib.hid ((HG5.out.step hwa).grown hgrow (Blk.own_ne (HG5.out.step hwa) hoa (by decide)))
       have hZ9 := Lib.hid (show ZB w9 (Y ++ [(T, g, r)]) from fun z hz => (List.mem_append.1 hz).elim (fun h => (ZB.grown (HZ5.out.step hwa) hoa hgrow) z h) (fun h => by rw [List.mem_singleton.1 h]; exact hG9.out))
       have hO9 := Lib.hid (show NmRow w9 w.heap.size (.slice (some ⟨gg, 0, none⟩) (Y.length + 1) cap2) (Y ++ [(T, g, r)]) by unfold NmRow; rw [nmrow_snoc, List.length_append]; exact hown1)
       have hB9 := Lib.hid ((HB5.out.alloc hsz _).grown hgrow (by simp; omega) (fun k hk => (World.ownsRow.lt hoa k hk).1))
       have hSN := Lib.hid (show Z ++ zsR r g (j + 1) = Y ++ [(T, g, r)] by rw [HSc.out, ← List.append_assoc, HYY.out])
       exact ⟨⟨j + 1, d + 1, by omega, by have := HD.out; omega, by go_num, Lib.hid (by rw [hSN.out]; exact hO9.out), Lib.hid (by rw [hSN.out]; exact hZ9.out), hG9, hB9⟩, by simp only [intOf]; omega⟩
      ·have hdt : ¬ d ≤ r.t := by omega
       obtain rfl : j = N := by omega
       have HA1 := Lib.hid (show (Z ++ zsR r g j).length ≤ 1500 ∧ (Z ++ zsR r g j).length = yr2 by rw [List.length_append]; have := HZl.out; simp [zsR]; omega)
       have HA2 := Lib.hid (show (Z ++ zsR r g j).map fRz = noms (F ++ [r]) by rw [List.map_append, HMM.out, noms_snoc, ← HNr.out, zsR_all])
       have HA3 := Lib.hid (show yr2 = yrsN (F ++ [r]) by rw [yrsN_snoc, HNr.out, ← HY.out]; omega)
       go_wp2_with fail
       exact ⟨⟨k + 1, yr2, true, _, by omega, rfl, rfl, by go_num, by omega, HA1.out.1, fun _ => HA1.out.2, Lib.hid (by rw [HF2.out]; simp), Lib.hid (by rw [HF2.out]; exact HA3.out), Lib.hid (fun _ => by rw [HF2.out]; exact HA2.out), HO, HZ, HB.out⟩, by simp [intOf]; omega⟩
   | false =>
    have hq : (r.name.toList == nm.toList) = false := hs
    have hq2 : (r.name.toList != nm.toList) = true := by rw [bne, hq]; rfl
    have HF2 := Lib.hid (show fil (rs.take (k + 1)) nm = F by rw [HF.out, hs]; simp)
    clear hs HF
    go_wp2_with fail
    exact ⟨⟨k + 1, yr, b, Z, by omega, rfl, rfl, by go_num, by omega, hZ, hZy, Lib.hid (by rw [HF2.out]; exact HQ.out), Lib.hid (by rw [HF2.out]; exact HY.out), Lib.hid (by rw [HF2.out]; exact HM.out), Lib.hid (World.ownsRow.alloc HO.out _), Lib.hid (HZ.out.step ((Below.refl _ _).alloc (Nat.le_refl _) _)), HB.out⟩, by simp [intOf]; omega⟩
  ·obtain rfl : k = n := by omega
   have htk : rs.take k = rs := List.take_of_length_le (by rw [HN.out]; omega)
   rw [htk] at HQ HY HM
   clear htk
   cases b with
   | false =>
    have HX := Lib.hid (turn_none (off := off) (show fil rs nm = [] by have := HQ.out; simpa using this))
    clear HQ HY HM
    go_wp2_with fail
    go_ret2
    exact tu_bad HX.out hB
   | true =>
    have hne : fil rs nm ≠ [] := by have := HQ.out; simpa using this
    by_cases hbig : 1500 < yr
    ·have HX := Lib.hid (turn_large (off := off) hne (by rw [← HY.out]; exact hbig))
     have hbig' : (1500 : Int) < (yr : Int) := by omega
     clear HQ HY HM hne
     go_wp2_with fail
     go_ret2
     exact tu_bad HX.out hB
    ·have hbig' : ¬ (1500 : Int) < (yr : Int) := by omega
     have hyl : yr ≤ 1500 := by omega
     have hZl : Z.length = yr := hZy hyl
     have HS0 := Lib.hid (show (srtZ Z).map fRz = turnS rs nm by rw [← srtZ_fR, HM.out hyl]; rfl)
     have hpos : 0 < Z.length := by
      have h1 : 0 < (fil rs nm).length := List.length_pos_iff.2 hne
      have h2 : ∀ G : List RuT, (∀ r ∈ G, RuB r) → G.length ≤ yrsN G := by
       intro G
       induction G with
       | nil => intro _; simp
       | cons r G ih =>
        intro hG
        have h3 := ih (fun x hx => hG x (by simp [hx]))
        have h4 := (hG r (by simp)).n
        simp [yrsN] at h3 ⊢; omega
      have h5 := h2 (fil rs nm) (fun r hr => HR.out r ((List.mem_filter.1 hr).1))
      rw [hZl, HY.out]; omega
     have HNB := Lib.hid (And.intro hne (show ¬ 1500 < yrsN (fil rs nm) by rw [← HY.out]; exact hbig))
     have HRR := Lib.hid (show ∀ z ∈ srtZ Z, RuB z.2.2 ∧ -20000000000 ≤ z.1 ∧ z.1 ≤ 20000000000 by
      intro z hz
      have h1 : fRz z ∈ noms (fil rs nm) := by rw [← HM.out hyl]; exact List.mem_map.2 ⟨z, (ssort_mem _ _ Z rfl z).1 hz, rfl⟩
      obtain ⟨h2, y, h3⟩ := noms_mem h1
      have h4 := HR.out _ ((List.mem_filter.1 h2).1)
      exact ⟨h4, by rw [show z.1 = ruT z.2.2 y from h3]; exact ruT_bd h4 y⟩)
     obtain ⟨G, cap, rfl, hge, hGl⟩ := World.ownsRow.form HO.out hpos
     have HC := Lib.hid (show Calls Tryz.prog 128 #[.slice (some ⟨G, 0, none⟩) Z.length cap, .func (.func 129) #[] #[]] wr fun e w' => e = .returned (.tuple #[]) ∧ NmAt w' w.heap.size G cap ((srtZ Z).map fPz) ∧ wr.grownBy w' (some G) by
      have h1 := s_SortStable w.heap.size G cap (Z.map fPz) wr (by rw [List.length_map]; omega) (by unfold NmAt; rw [List.length_map]; exact HO.out)
      rw [List.length_map, srtZ_fP] at h1
      exact h1)
     have HZS := Lib.hid (fun (w' : World) (hg : wr.grownBy w' (some G)) => srtZ_B (ZB.grown HZ.out HO.out hg))
     have hSl : (srtZ Z).length = Z.length := srtZ_len Z
     have hZ15 : Z.length ≤ 1500 := hZ
     obtain ⟨M, hM⟩ : ∃ M, Z.length = M := ⟨_, rfl⟩
     obtain ⟨S, hS⟩ : ∃ S, srtZ Z = S := ⟨_, rfl⟩
     rw [hM] at HC hSl hZ15 hpos
     rw [hS] at HC HS0 HRR HZS hSl
     have HBb := Lib.hid hB
     have hsz := hB.size
     rw [hM]
     clear HQ HY HM HO HZ hne hZl hZy hyl hM hS hZ hyr hB hbig
     go_wp2_with fail
     refine HC.out.mono ?_
     rintro e w2 ⟨rfl, hN2, hg2⟩
     have HN2 := Lib.hid hN2
     have HZ2 := Lib.hid (HZS.out w2 hg2)
     have HB2 := Lib.hid (HBb.out.grown hg2 (by omega) (fun j hj => by cases hj; exact hge))
     clear HC HZS HBb hN2 hg2
     clear hpos hge hGl hsz hbig'
     go_wp2_with fail
     go_loopw [16, 17, 78] (fun v y i wr => ∃ (q : Nat) (s : Int), q ≤ M ∧ y = .int .i64 s ∧ i = .int .i64 q ∧ 0 ≤ s ∧ s ≤ 10800 ∧ Hid (s = prevS (S.map fRz) q) ∧ Hid (∀ j, j < q → tuBad off (S.map fRz) j = false) ∧ Hid (wr.ownsRow w.heap.size 149 3 v (((List.range q).map (tuV off (S.map fRz))).map tuCells).length (((List.range q).map (tuV off (S.map fRz))).map tuCells).flatten) ∧ Hid (NmAt wr w.heap.size G cap (S.map fPz)) ∧ Hid (ZB wr S) ∧ Hid (Below w.heap.size w wr)) (fun _ _ i _ => M - (intOf i).toNat)
     case atStart => exact ⟨0, 0, Nat.zero_le _, rfl, rfl, by omega, by omega, Lib.hid rfl, Lib.hid (fun j h => absurd h (by omega)), Lib.hid (World.ownsRow_nil _ _ _ _), HN2, HZ2, HB2⟩
     case round =>
      clear HN2 HZ2 HB2
      obtain ⟨q, s, hq, rfl, rfl, hs0, hs1, HS1, HBD, HO, HN2, HZ2, HB2⟩ := hrel
      by_cases hlt2 : q < M
      ·as_aux_lemma =>
       have hqS : q < S.length := by omega
       have hi1 : (0 : Int) ≤ (q : Int) := by omega
       have hi2 : (q : Int) < (M : Int) := by omega
       obtain ⟨d0, d1⟩ := HN2.out.cell' (k := q) (x := fPz S[q]) (by simp [hqS])
       have hGN := HN2.out.lt.2
       have hzb := HZ2.out _ (List.getElem_mem hqS)
       obtain ⟨hrb, ht1, ht2⟩ := HRR.out _ (List.getElem_mem hqS)
       have HTV := Lib.hid (show (S.map fRz).getD q default = fRz S[q] by simp [List.getD, hqS])
       obtain ⟨z, hz⟩ : ∃ z, S[q] = z := ⟨_, rfl⟩
       rw [hz] at d0 d1 hzb hrb ht1 ht2 HTV
       clear hz
       obtain ⟨T, g, r⟩ := z
       simp only [fPz] at d0 d1
       simp only at ht1 ht2 hrb hzb
       obtain ⟨_, _, ⟨hb0, hb2⟩, ⟨hv0, hv1⟩⟩ := hrb
       have HGB := Lib.hid hzb
       have kr := hzb.cell
       have gl := hzb.lt
       have HVV := Lib.hid (show tuV off (S.map fRz) q = (T - byOff off s r.b, r.sv, r.letter) by unfold tuV; rw [HTV.out, HS1.out]; rfl)
       have HPV := Lib.hid (show prevS (S.map fRz) (q + 1) = r.sv by unfold prevS; rw [if_neg (by omega), Nat.add_sub_cancel, HTV.out]; rfl)
       have hw1 : IntKind.i64.wrap (off + s) = off + s := IntWalk.i64_in _ (by omega)
       have hw2 : IntKind.i64.wrap (T - (off + s)) = T - (off + s) := IntWalk.i64_in _ (by omega)
       have hw3 : IntKind.i64.wrap (T - off) = T - off := IntWalk.i64_in _ (by omega)
       clear hzb
       obtain ⟨A, hA⟩ : ∃ A, T - byOff off s r.b = A := ⟨_, rfl⟩
       rw [hA] at HVV
       have HB3 : ((r.b == 0) = true ∧ T - (off + s) = A) ∨ ((r.b == 0) = false ∧ (r.b == 1) = true ∧ T - off = A) ∨ ((r.b == 0) = false ∧ (r.b == 1) = false ∧ T = A) := by
        unfold byOff at hA
        rcases (show r.b = 0 ∨ r.b = 1 ∨ r.b = 2 by omega) with hb | hb | hb
        ·rw [if_pos hb] at hA; exact Or.inl ⟨by simp [hb], hA⟩
        ·rw [if_neg (by omega), if_pos hb] at hA; exact Or.inr (Or.inl ⟨by simp [hb], by simp [hb], hA⟩)
        ·rw [if_neg (by omega), if_neg (by omega)] at hA; exact Or.inr (Or.inr ⟨by simp [hb], by simp [hb], by omega⟩)
       have HLs := Lib.hid (show ((List.range (q + 1)).map (tuV off (S.map fRz))).map tuCells = ((List.range q).map (tuV off (S.map fRz))).map tuCells ++ [tuCells (A, r.sv, r.letter)] by rw [tuL_succ, List.map_append, HVV.out]; rfl)
       have HLq : (((List.range q).map (tuV off (S.map fRz))).map tuCells).length = q := by simp
       have HLx := Lib.hid (fun (h : 0 < q) => show (((List.range q).map (tuV off (S.map fRz))).map tuCells).flatten[(q - 1) * 3]? = some (.int .i64 (tuV off (S.map fRz) (q - 1)).1) by
        have h1 := flat_get (size := 3) (((List.range q).map (tuV off (S.map fRz))).map tuCells) (q - 1) 0 (tu_len3 _) (by simp; omega) (by omega)
        rw [Nat.add_zero] at h1
        rw [h1]
        have h2 : q - 1 < q := by omega
        simp [List.getD, h2, tuCells])
       have HBX := Lib.hid (fun (h : 0 < q) (hle : A ≤ (tuV off (S.map fRz) (q - 1)).1) => show tuBad off (S.map fRz) q = true by unfold tuBad; rw [HVV.out]; simp only [decide_eq_true_eq]; exact ⟨h, hle⟩)
       have HBN := Lib.hid (fun (h : ¬ (0 < q ∧ A ≤ (tuV off (S.map fRz) (q - 1)).1)) => show tuBad off (S.map fRz) q = false by unfold tuBad; rw [HVV.out]; simp only [decide_eq_false_iff_not]; exact h)
       obtain ⟨P, hP⟩ : ∃ P, (tuV off (S.map fRz) (q - 1)).1 = P := ⟨_, rfl⟩
       rw [hP] at HBX HBN HLx
       obtain ⟨L, hL⟩ : ∃ L, ((List.range q).map (tuV off (S.map fRz))).map tuCells = L := ⟨_, rfl⟩
       rw [hL] at HO HLs HLq HLx
       have HBD' := Lib.hid (fun (h : tuBad off (S.map fRz) q = false) => show ∀ j, j < q + 1 → tuBad off (S.map fRz) j = false from fun j hj => if e : j = q then (by rw [e]; exact h) else HBD.out j (by omega))
       have HTE := Lib.hid (fun (h : tuBad off (S.map fRz) q = true) => turn_bad (off := off) HNB.out.1 HNB.out.2 (i := q) (by rw [← HS0.out, List.length_map, hSl]; exact hlt2) (by rw [← HS0.out]; exact h))
       clear hA hb0 hb2 hP hL HBD
       rcases HB3 with ⟨e0, eA⟩ | ⟨e0, e1, eA⟩ | ⟨e0, e1, eA⟩
       all_goals as_aux_lemma =>
        go_wp2_with fail
        go_region
        go_wp2_with fail
        first
        | (obtain ⟨W, hW⟩ : ∃ W, ((wr.alloc (.cells #[.int .i64 T, .pointer (some ⟨g, 0, none⟩)] 187)).alloc (.cells #[.int .i64 A, .int .i64 r.sv, .string r.letter] 149)).drew = W := ⟨_, rfl⟩; rw [hW])
        | (obtain ⟨W, hW⟩ : ∃ W, ((wr.alloc (.cells #[.int .i64 A, .pointer (some ⟨g, 0, none⟩)] 187)).alloc (.cells #[.int .i64 A, .int .i64 r.sv, .string r.letter] 149)).drew = W := ⟨_, rfl⟩; rw [hW])
        obtain ⟨hT, hn, hV⟩ := tuW _ _ _ _ _ _ _ hW
        have HO3 := Lib.hid (own_step HO.out hV)
        have HN3 := Lib.hid (show NmAt W w.heap.size G cap (S.map fPz) from own_step HN2.out hV)
        have HZ3 := Lib.hid (HZ2.out.step hV)
        have HG3 := Lib.hid (HGB.out.step hV)
        have HB3 := Lib.hid (HB2.out.trans (hV.mono HB2.out.size))
        have hzw : wr.heap.size < W.heap.size := by have := hT.lt; omega
        clear hV HO HN2 HZ2 HGB HB2 kr gl d0 d1 hW hGN hw1 hw2 hw3 e0 eA
        by_cases hq0 : q = 0
        ·as_aux_lemma =>
         have HBD2 := Lib.hid (HBD'.out (HBN.out (by omega)))
         have hdk : decide ((0 : Int) < (q : Int)) = false := by simp; omega
         have hdk2 : ¬ 0 < q := by omega
         go_quiet (fail)
         rename_i nq
         have hVq := below_drewN (Below.refl W.heap.size W) nq
         replace HO3 := Lib.hid (own_step HO3.out hVq)
         replace HN3 := Lib.hid (show NmAt (W.drewN nq) w.heap.size G cap (S.map fPz) from own_step HN3.out hVq)
         replace HZ3 := Lib.hid (HZ3.out.step hVq)
         replace HG3 := Lib.hid (HG3.out.step hVq)
         replace HB3 := Lib.hid (HB3.out.trans (hVq.mono HB3.out.size))
         replace hT := hT.step hVq
         replace hn := show (W.drewN nq).cell? ⟨wr.heap.size, 1, none⟩ = some (.pointer (some ⟨g, 0, none⟩)) from hn
         revert HO3 HN3 HZ3 HG3 HB3 hT hn
         generalize W.drewN nq = V
         intro HO3 HN3 HZ3 HG3 HB3 hT hn
         clear hVq
         have kr := HG3.out.cell
         have gl := HG3.out.lt
         have tc := hT.cell
         have tl := hT.lt
         have HT := Lib.hid hT
         have hsz := HB3.out.size
         clear hT
         go_wp2_with (at_builtin; refine wpList_append_lies _ rfl _ _ _ rfl w.heap.size 149 iT _ 3 32 Tryz.underlying105 hiT hy0 hy1 hy2 rfl (by omega) u16 L.length _ rfl (HO3.out.alloc _) ⟨V.heap.size, 0, none⟩ 1 1 [.int .i64 A, .int .i64 r.sv, .string r.letter] rfl rfl (World.news_of_block (cs := #[.int .i64 A, .int .i64 r.sv, .string r.letter]) (t := 149) (fr := (0, 0)) (heap_alloc_new V _)) (by simp [Value.oneCell']) (by omega) (by unfold maxLen; omega) (by omega) (by simp; omega) (V.heap.size + 1) (by simp) ?_; intro gg cap2 w6 hown1 hgrow hat hlt6)
         have hoa := World.ownsRow.alloc HO3.out (.cells #[.int .i64 A, .int .i64 r.sv, .string r.letter] 149)
         have hwa := (Below.refl V.heap.size V).alloc (Nat.le_refl _) (.cells #[.int .i64 A, .int .i64 r.sv, .string r.letter] 149)
         exact ⟨⟨q + 1, r.sv, by omega, rfl, by go_num, hv0, hv1, Lib.hid HPV.out.symm, HBD2, Lib.hid (by rw [HLs.out]; simpa [HLq, hq0, tuCells] using hown1), Lib.hid (World.ownsRow.kept (World.ownsRow.alloc HN3.out _) hgrow (own_ne (World.ownsRow.alloc HN3.out _) hoa (by decide))), Lib.hid (ZB.grownT (HZ3.out.step hwa) hoa hgrow), Lib.hid ((HB3.out.alloc hsz _).grown hgrow (by simp; omega) (fun k hk => (World.ownsRow.lt hoa k hk).1))⟩, by simp only [intOf]; omega⟩
        ·as_aux_lemma =>
         obtain ⟨gO, cO, rfl, hgO, hlO⟩ := World.ownsRow.form HO3.out (by omega)
         have hi5 : (0 : Int) ≤ (q : Int) - 1 := by omega
         have hi6 : (q : Int) - 1 < (L.length : Int) := by omega
         have hi7 : 0 < q := by omega
         have p0 := (World.ownsRow.cellAt HO3.out ((q - 1) * 3) (by omega)).trans (HLx.out hi7)
         have tc := hT.cell
         have tl := hT.lt
         by_cases hpv : A ≤ P
         ·have HX := Lib.hid (HTE.out (HBX.out hi7 hpv))
          go_quiet (fail)
          go_wp2_with fail
          go_ret2
          exact tu_bad HX.out (below_drewN HB3.out _)
         ·as_aux_lemma =>
          have HBD2 := Lib.hid (HBD'.out (HBN.out (fun h => hpv h.2)))
          go_quiet (fail)
          clear p0 tc tl
          rename_i nq
          have hVq := below_drewN (Below.refl W.heap.size W) nq
          replace HO3 := Lib.hid (own_step HO3.out hVq)
          replace HN3 := Lib.hid (show NmAt (W.drewN nq) w.heap.size G cap (S.map fPz) from own_step HN3.out hVq)
          replace HZ3 := Lib.hid (HZ3.out.step hVq)
          replace HG3 := Lib.hid (HG3.out.step hVq)
          replace HB3 := Lib.hid (HB3.out.trans (hVq.mono HB3.out.size))
          replace hT := hT.step hVq
          replace hn := show (W.drewN nq).cell? ⟨wr.heap.size, 1, none⟩ = some (.pointer (some ⟨g, 0, none⟩)) from hn
          revert HO3 HN3 HZ3 HG3 HB3 hT hn
          generalize W.drewN nq = V
          intro HO3 HN3 HZ3 HG3 HB3 hT hn
          clear hVq
          have kr := HG3.out.cell
          have gl := HG3.out.lt
          have tc := hT.cell
          have tl := hT.lt
          have HT := Lib.hid hT
          have hsz := HB3.out.size
          clear hT
          go_wp2_with (at_builtin; refine wpList_append_lies _ rfl _ _ _ rfl w.heap.size 149 iT _ 3 32 Tryz.underlying105 hiT hy0 hy1 hy2 rfl (by omega) (.slice (some ⟨gO, 0, none⟩) L.length cO) L.length _ rfl (HO3.out.alloc _) ⟨V.heap.size, 0, none⟩ 1 1 [.int .i64 A, .int .i64 r.sv, .string r.letter] rfl rfl (World.news_of_block (cs := #[.int .i64 A, .int .i64 r.sv, .string r.letter]) (t := 149) (fr := (0, 0)) (heap_alloc_new V _)) (by simp [Value.oneCell']) (by omega) (by unfold maxLen; omega) (by omega) (by simp; omega) (V.heap.size + 1) (by simp) ?_; intro gg cap2 w6 hown1 hgrow hat hlt6)
          have hoa := World.ownsRow.alloc HO3.out (.cells #[.int .i64 A, .int .i64 r.sv, .string r.letter] 149)
          have hwa := (Below.refl V.heap.size V).alloc (Nat.le_refl _) (.cells #[.int .i64 A, .int .i64 r.sv, .string r.letter] 149)
          exact ⟨⟨q + 1, r.sv, by omega, rfl, by go_num, hv0, hv1, Lib.hid HPV.out.symm, HBD2, Lib.hid (by rw [HLs.out]; simpa [HLq, tuCells] using hown1), Lib.hid (World.ownsRow.kept (World.ownsRow.alloc HN3.out _) hgrow (own_ne (World.ownsRow.alloc HN3.out _) hoa (by decide))), Lib.hid (ZB.grownT (HZ3.out.step hwa) hoa hgrow), Lib.hid ((HB3.out.alloc hsz _).grown hgrow (by simp; omega) (fun k hk => (World.ownsRow.lt hoa k hk).1))⟩, by simp only [intOf]; omega⟩
      ·obtain rfl : q = M := by omega
       have HX := Lib.hid (turn_ok (off := off) HNB.out.1 HNB.out.2 (by rw [← HS0.out]; intro i hi; exact HBD.out i (by simpa [hSl] using hi)))
       go_wp2_with fail
       go_ret2
       refine ⟨u16, by rw [HX.out.1]; rfl, ?_, HB2.out⟩
       have h := HO.out
       rw [HX.out.2, ← HS0.out]
       simp only [tuL, List.length_map, List.length_range, hSl] at h ⊢
       exact h
end Go.Proofs.YthppifcggmdmoaaGreatDoor

