/- Part 40 of the proof of TopWall: no condition; what its declarations say stands at each. -/
import Derived.Test.YthppifcggmdmoaaGreatDoorW12
import Derived.Test.YthppifcggmdmoaaGreatDoorW28
import Derived.Test.YthppifcggmdmoaaGreatDoorW39
import Derived.Test.YthppifcggmdmoaaGreatDoorW35
namespace Go.Proofs.YthppifcggmdmoaaGreatDoor
open Go.RowKit
set_option linter.unusedVariables false
set_option linter.unusedSimpArgs false
attribute [local go_sem ↓] Go.wp_at_zero Go.wp_at_succ
def wkN : NSt := ⟨[(3600, false, wkC), (0, false, wkG)], [(0, 1)], (0, false, wkG)⟩
theorem wk_tab : nBuild (fT [] wkEs (-5)) ((refL [] wkEs (-5) 5 wkEs.length).map fun t => (t, fT [] wkEs t)) = wkN := by kernel_rfl
theorem wk_zs {zs : List ZoT} (h : zs.map zoP = wkSt.zs) : ∃ A c, zs = [⟨wkA, A, c, wkEs⟩] := by
 match zs, h with
 | [⟨nm, A, c, es⟩], h =>
  have h2 : [((nm, es) : ByteArray × List ErT)] = [(wkA, wkEs)] := h
  simp only [List.cons.injEq, and_true, Prod.mk.injEq] at h2
  exact ⟨A, c, by rw [h2.1, h2.2]⟩
 | [], h => exact absurd (congrArg List.length h) (by decide)
 | a :: b :: l, h => exact absurd (congrArg List.length h) (by simp [wkSt])
theorem wk_book {z : ZoT} (h : z.name = wkA) (h2 : z.eras = wkEs) : bookE [] [z] [] = 0 := by
 have e : bookE [] [z] [] = chkE wkSt := by
  unfold chkE
  exact bookE_map (by rw [toZ_zoP]; unfold zoP wkSt; simp [h, h2])
 rw [e]; exact wk_chk
theorem wk_res (A : Option Addr) (c : Nat) : res [⟨wkA, A, c, wkEs⟩] [] ([] : List LkT).length.succ wkA = .zone ⟨wkA, A, c, wkEs⟩ := by
 refine res_zone ?_
 unfold fiZ
 rw [List.find?_cons]
 have : sEq wkA wkA = true := by kernel_rfl
 simp only [this]
set_option maxRecDepth 100000 in
theorem wk_make (AR AZ AL : Option Addr) (cR cZ cL : Nat) (rs : List RuT) (zs : List ZoT) (ls : List LkT) (w : World) (H : BkOk w w.heap.size ⟨AR, AZ, AL, cR, cZ, cL, rs, zs, ls⟩) (HI : EraIn w) (h1 : rs = []) (h2 : zs.map zoP = wkSt.zs) (h3 : ls = []) :
  Calls Tryz.prog 15 #[.agg #[.slice AR rs.length cR, .slice AZ zs.length cZ, .slice AL ls.length cL], .string ⟨#[65]⟩, .agg #[.int .i64 (-5), .int .i64 5]] w fun e w' => ∃ A b o cT cC, e = .returned (.tuple #[.agg #[.slice A 2 cT, .int .i64 0, .slice (some ⟨b, o, none⟩) 1 cC], .int .i64 0]) ∧ w'.cell? ⟨b, o, none⟩ = some (.int .i64 0) ∧ b < w'.heap.size ∧ 1 ≤ cC ∧ cC ≤ maxLen ∧ Below w.heap.size w w' := by
 subst h1 h3
 obtain ⟨Az, c, rfl⟩ := wk_zs h2
 have hb := wk_book (z := ⟨wkA, Az, c, wkEs⟩) rfl rfl
 have hr := wk_res Az c
 obtain ⟨e1, _, e3, _⟩ := esOk_of hb (res_mem hr)
 have s1 : stE (-5) = 0 := by kernel_rfl
 have s2 : stE 5 = 0 := by kernel_rfl
 have s3 : ersE [] wkEs = 0 := by kernel_rfl
 refine (m_Make_z AR AZ AL cR cZ cL [] [⟨wkA, Az, c, wkEs⟩] [] wkA (by unfold maxLen; decide) (-5) 5 w H HI (by omega) (by omega) (by omega) (by omega) ⟨wkA, Az, c, wkEs⟩ hb hr 0 wkN (fun h => ?_) (fun _ _ _ h => absurd s3 h) (fun _ _ _ _ => ⟨fun m h1 h2 h3 => ?_, ?_⟩)).mono ?_
 ·rcases h with h | h | h
  ·exact absurd s1 h
  ·exact absurd s2 h
  ·omega
 ·rw [← wk_tab]
  exact tab_both e3 e1 m h1 h2 h3
 ·rw [if_neg (by decide)]
 ·rintro e w' ⟨A, C, cT, cC, he, hT, hb⟩
  have q1 : (if (0 : Int) = 0 then wkN.ts else []) = wkN.ts := if_pos rfl
  have q2 : (if (0 : Int) = 0 then wkN.cs else []) = wkN.cs := if_pos rfl
  rw [q1, q2] at he hT
  obtain ⟨b, o, rfl, hlt, c0, _⟩ := ch_at hT.C (k := 0) (by decide)
  have m1 : 1 ≤ cC := hT.cC
  rw [Nat.zero_mul, Nat.add_zero] at c0
  exact ⟨A, b, o, cT, cC, he, c0, hlt, m1, hT.mC, hb⟩
set_option maxRecDepth 100000 in
set_option maxHeartbeats 4000000 in
theorem t_works (w : World) (P : RpW w) : Calls Tryz.prog 10 #[] w fun e w' => e = .returned (.bool true) ∧ Below w.heap.size w w' := by
 obtain ⟨F, _⟩ := rdr_ex
 have HK := Lib.hid (show Calls Tryz.prog 6 #[.string ⟨#[122, 111, 110, 101, 32, 65, 10, 101, 114, 97, 32, 49, 58, 48, 48, 32, 45, 48, 58, 48, 48, 32, 67, 69, 84, 32, 49, 57, 55, 48, 45, 48, 49, 45, 48, 49, 84, 48, 48, 58, 48, 48, 58, 48, 48, 10, 101, 114, 97, 32, 48, 58, 48, 48, 32, 45, 48, 58, 48, 48, 32, 71, 77, 84]⟩] w (BpPost F wkS w) from b_Parse F wkS w P)
 have HP := Lib.hid P
 clear P
 go_enter Tryz.func10, Tryz.ntmps10
 go_wp2_with fail
 refine HK.out.mono ?_
 rintro e w1 ⟨st, n, er, ⟨AR, AZ, AL, cR, cZ, cL, rs, zs, ls⟩, he, h1, ⟨d1, d2, d3⟩, hk, hb1⟩
 obtain ⟨rfl, rfl, rfl⟩ := h1.one (wk_is F)
 simp only [BkD.v] at he
 subst he
 simp only at d1 d2 d3
 have hv := (Below.refl w1.heap.size w1).alloc (Nat.le_refl _) (.cells #[.slice AR rs.length cR, .slice AZ zs.length cZ, .slice AL ls.length cL] 26)
 have hb2 := hb1.trans (hv.mono hb1.size)
 have HB := Lib.hid hb2
 have HM := Lib.hid (wk_make AR AZ AL cR cZ cL rs zs ls _ (hk.step hv) (fun y hy => (HP.out.on hb2).S.it y (by omega)) d1 d2 d3)
 have HX := Lib.hid (Blk.new w1 #[.slice AR rs.length cR, .slice AZ zs.length cZ, .slice AL ls.length cL] 26)
 clear hv hb1 hb2 hk h1 d1 d2 d3 HK
 go_upto_region 2 with fail
 obtain ⟨V, hV⟩ : ∃ V, w1.alloc (.cells #[.slice AR rs.length cR, .slice AZ zs.length cZ, .slice AL ls.length cL] 26) = V := ⟨_, rfl⟩
 obtain ⟨g, hg⟩ : ∃ g, w1.heap.size = g := ⟨_, rfl⟩
 rw [hV] at HB HM HX ⊢
 rw [hg] at HX ⊢
 clear hV hg
 have xc := HX.out.cell
 have xl := HX.out.lt
 go_wp2_with fail
 refine HM.out.mono ?_
 rintro e w2 ⟨A, b, o, cT, cC, rfl, c0, hlt, m1, m2, hb⟩
 unfold maxLen at m2
 clear HM xc xl
 have hb3 := hb.trans (((Below.refl w2.heap.size w2).alloc (Nat.le_refl _) (.cells #[.slice A 2 cT, .int .i64 0, .slice (some ⟨b, o, none⟩) 1 cC] 37)).mono hb.size)
 have hv := (Below.refl w2.heap.size w2).alloc (Nat.le_refl _) (.cells #[.slice A 2 cT, .int .i64 0, .slice (some ⟨b, o, none⟩) 1 cC] 37)
 have c1 := (hv.cell (p := ⟨b, o, none⟩) hlt).trans c0
 have hlt2 := Nat.lt_of_lt_of_le hlt hv.size
 have HY := Lib.hid (Blk.new w2 #[.slice A 2 cT, .int .i64 0, .slice (some ⟨b, o, none⟩) 1 cC] 37)
 replace HB := Lib.hid (HB.out.trans (hb3.mono HB.out.size))
 clear hb hb3 hv c0 hlt
 go_upto_region 3 with fail
 obtain ⟨V2, hV⟩ : ∃ V, w2.alloc (.cells #[.slice A 2 cT, .int .i64 0, .slice (some ⟨b, o, none⟩) 1 cC] 37) = V := ⟨_, rfl⟩
 obtain ⟨g2, hg⟩ : ∃ g, w2.heap.size = g := ⟨_, rfl⟩
 rw [hV] at HB HY c1 hlt2 ⊢
 rw [hg] at HY ⊢
 clear hV hg
 have yc := HY.out.cell
 have yl := HY.out.lt
 go_wp2_with fail
 go_ret
 exact ⟨ret_bool (by simp), HB.out⟩
end Go.Proofs.YthppifcggmdmoaaGreatDoor

namespace Go.Proofs.YthppifcggmdmoaaGreatDoor
set_option linter.unusedVariables false
def lowT : Int := -4611686018427387904
def highT : Int := 4611686018427387903
abbrev Pc := Int × Int × Int
def offK (ts : List Ty) (k : Int) : Int := (ts.getD k.toNat tyZero).1
def pcFrom (cs : List Ch) (j : Nat) : Int := if j = 0 then lowT else (cs.getD (j - 1) (0, 0)).1
def pcK (first : Int) (cs : List Ch) (j : Nat) : Int := if j = 0 then first else (cs.getD (j - 1) (0, 0)).2
def pcTo (cs : List Ch) (j : Nat) : Int := if j < cs.length then (cs.getD j (0, 0)).1 else highT
def pcAt (ts : List Ty) (first : Int) (cs : List Ch) (j : Nat) : Pc := (pcFrom cs j, pcTo cs j, offK ts (pcK first cs j))
def pcUp (ts : List Ty) (first : Int) (cs : List Ch) (n : Nat) : List Pc := (List.range n).map (pcAt ts first cs)
abbrev pcAll (ts : List Ty) (first : Int) (cs : List Ch) : List Pc := pcUp ts first cs (cs.length + 1)
theorem getD_ch {cs : List Ch} {i : Nat} (h : i < cs.length) : cs.getD i (0, 0) = cs[i] := by simp [List.getD, h]
theorem pcFrom_succ {cs : List Ch} {j : Nat} (h : j < cs.length) : pcFrom cs (j + 1) = cs[j].1 := by simp [pcFrom, h]
theorem pcTo_lt {cs : List Ch} {j : Nat} (h : j < cs.length) : pcTo cs j = cs[j].1 := by simp [pcTo, h]
theorem pcK_succ {first : Int} {cs : List Ch} {j : Nat} (h : j < cs.length) : pcK first cs (j + 1) = cs[j].2 := by simp [pcK, h]
theorem pcFrom_range {ts : List Ty} {first : Int} {cs : List Ch} (h : TabOk ts first cs) {j : Nat} (hj : j ≤ cs.length) : lowT ≤ pcFrom cs j ∧ pcFrom cs j ≤ 1099511627776 := by
 unfold pcFrom lowT
 by_cases h0 : j = 0
 ·rw [if_pos h0]; omega
 ·rw [if_neg h0, getD_ch (by omega)]; have := h.range _ (List.getElem_mem (show j - 1 < cs.length by omega)); omega
theorem pcTo_range {ts : List Ty} {first : Int} {cs : List Ch} (h : TabOk ts first cs) (j : Nat) : -1099511627776 ≤ pcTo cs j ∧ pcTo cs j ≤ highT := by
 unfold pcTo highT
 by_cases h0 : j < cs.length
 ·rw [if_pos h0, getD_ch h0]; have := h.range _ (List.getElem_mem h0); omega
 ·rw [if_neg h0]; omega
theorem pcK_range {ts : List Ty} {first : Int} {cs : List Ch} (h : TabOk ts first cs) {j : Nat} (hj : j ≤ cs.length) : 0 ≤ pcK first cs j ∧ pcK first cs j < ts.length := by
 unfold pcK
 by_cases h0 : j = 0
 ·rw [if_pos h0]; exact ⟨h.first0, h.first1⟩
 ·rw [if_neg h0, getD_ch (by omega)]; have := h.range _ (List.getElem_mem (show j - 1 < cs.length by omega)); omega
theorem pc_le {ts : List Ty} {first : Int} {cs : List Ch} (h : TabOk ts first cs) {i j : Nat} (hj : j ≤ cs.length) (hij : i < j) : pcTo cs i ≤ pcFrom cs j := by
 obtain ⟨j, rfl⟩ : ∃ k, j = k + 1 := ⟨j - 1, by omega⟩
 rw [pcFrom_succ (by omega), pcTo_lt (by omega)]
 by_cases e : i = j
 ·subst e; exact Int.le_refl _
 ·exact Int.le_of_lt (sorted_at h.sorted (by omega) (by omega))
theorem tyIx_pc {ts : List Ty} {first : Int} {cs : List Ch} (h : TabOk ts first cs) {j : Nat} (hj : j ≤ cs.length) {t : Int} (h1 : pcFrom cs j ≤ t) (h2 : t < pcTo cs j) : tyIx first cs t = pcK first cs j := by
 by_cases h0 : j = 0
 ·subst h0
  rw [pcK, if_pos rfl]
  refine tyIx_none (fun c hc hle => ?_)
  obtain ⟨i, hi, rfl⟩ := List.mem_iff_getElem.1 hc
  rw [pcTo_lt (by omega)] at h2
  by_cases e : i = 0
  ·subst e; omega
  ·have := sorted_at h.sorted hi (show 0 < i by omega); omega
 ·obtain ⟨j, rfl⟩ : ∃ k, j = k + 1 := ⟨j - 1, by omega⟩
  rw [pcK_succ (by omega)]
  rw [pcFrom_succ (by omega)] at h1
  refine tyIx_at j (by omega) h1 (fun i hi hji hle => ?_)
  have hto : pcTo cs (j + 1) = (cs[j + 1]'(by omega)).1 := pcTo_lt (by omega)
  by_cases e : i = j + 1
  ·subst e; omega
  ·have := sorted_at h.sorted hi (show j + 1 < i by omega); omega
def offT (ts : List Ty) (first : Int) (cs : List Ch) (t : Int) : Int := (tabOf ts first cs t).1
theorem offT_pc {ts : List Ty} {first : Int} {cs : List Ch} (h : TabOk ts first cs) {j : Nat} (hj : j ≤ cs.length) {t : Int} (h1 : pcFrom cs j ≤ t) (h2 : t < pcTo cs j) : offT ts first cs t = offK ts (pcK first cs j) := by
 rw [offT, tabOf, tyIx_pc h hj h1 h2]; rfl
theorem pc_ex {ts : List Ty} {first : Int} {cs : List Ch} (h : TabOk ts first cs) {t : Int} (h1 : lowT ≤ t) (h2 : t < highT) : ∃ j, j ≤ cs.length ∧ pcFrom cs j ≤ t ∧ t < pcTo cs j := by
 obtain ⟨c1, c2, c3⟩ := chCount_spec h.sorted t
 refine ⟨chCount cs t, c1, ?_, ?_⟩
 ·unfold pcFrom
  by_cases h0 : chCount cs t = 0
  ·rw [if_pos h0]; exact h1
  ·rw [if_neg h0, getD_ch (by omega)]; exact c2 _ (by omega) (by omega)
 ·unfold pcTo
  by_cases h0 : chCount cs t < cs.length
  ·rw [if_pos h0, getD_ch h0]; exact c3 _ h0 (Nat.le_refl _)
  ·rw [if_neg h0]; exact h2
theorem offK_range {ts : List Ty} {first : Int} {cs : List Ch} (h : TabOk ts first cs) {k : Int} (h1 : 0 ≤ k) (h2 : k < ts.length) : -75600 ≤ offK ts k ∧ offK ts k ≤ 75600 := by
 have hn : k.toNat < ts.length := by omega
 have e : offK ts k = ts[k.toNat].1 := by unfold offK; simp [List.getD, hn]
 rw [e]
 have := h.types _ (List.getElem_mem hn)
 exact ⟨this.1, this.2.1⟩
theorem offT_range {ts : List Ty} {first : Int} {cs : List Ch} (h : TabOk ts first cs) (t : Int) : -75600 ≤ offT ts first cs t ∧ offT ts first cs t ≤ 75600 := by
 have hr := tyIx_range t h
 exact offK_range h hr.1 hr.2
def findP (l : Int) (p : Pc) : Option Int := if p.1 ≤ l - p.2.2 ∧ l - p.2.2 < p.2.1 then some (l - p.2.2) else none
def findL (l : Int) (ps : List Pc) : List Int := ps.filterMap (findP l)
theorem findL_hit {l : Int} {ps : List Pc} {p : Pc} (h1 : p.1 ≤ l - p.2.2) (h2 : l - p.2.2 < p.2.1) : findL l (ps ++ [p]) = findL l ps ++ [l - p.2.2] := by
 simp [findL, List.filterMap_append, findP, h1, h2]
theorem findL_miss {l : Int} {ps : List Pc} {p : Pc} (h : ¬ (p.1 ≤ l - p.2.2 ∧ l - p.2.2 < p.2.1)) : findL l (ps ++ [p]) = findL l ps := by
 simp [findL, List.filterMap_append, findP, h]
theorem findL_length (l : Int) (ps : List Pc) : (findL l ps).length ≤ ps.length := List.length_filterMap_le _ _
theorem findL_mem {ts : List Ty} {first : Int} {cs : List Ch} (h : TabOk ts first cs) (l t : Int) : t ∈ findL l (pcAll ts first cs) ↔ (lowT ≤ t ∧ t < highT) ∧ t + offT ts first cs t = l := by
 unfold findL pcAll pcUp
 simp only [List.mem_filterMap, List.mem_map, List.mem_range]
 constructor
 ·rintro ⟨p, ⟨j, hj, rfl⟩, hp⟩
  unfold findP at hp
  split at hp
  ·rename_i hc
   simp only [Option.some.injEq] at hp
   simp only [pcAt] at hc hp
   rw [hp] at hc
   have r1 := pcFrom_range h (show j ≤ cs.length by omega)
   have r2 := pcTo_range h j
   have := offT_pc h (show j ≤ cs.length by omega) hc.1 hc.2
   exact ⟨⟨by omega, by omega⟩, by omega⟩
  ·cases hp
 ·rintro ⟨⟨h1, h2⟩, e⟩
  obtain ⟨j, hj, j1, j2⟩ := pc_ex h h1 h2
  refine ⟨_, ⟨j, by omega, rfl⟩, ?_⟩
  have := offT_pc h hj j1 j2
  have e2 : l - offK ts (pcK first cs j) = t := by omega
  simp only [findP, pcAt, e2]
  rw [if_pos ⟨j1, j2⟩]
theorem findL_rise {ts : List Ty} {first : Int} {cs : List Ch} (h : TabOk ts first cs) (l : Int) : (findL l (pcAll ts first cs)).Pairwise (· < ·) := by
 unfold findL pcAll pcUp
 rw [List.pairwise_filterMap, List.pairwise_map]
 refine List.Pairwise.imp_of_mem ?_ List.pairwise_lt_range
 intro i j hi hj hij x hx y hy
 simp only [List.mem_range] at hi hj
 unfold findP at hx hy
 split at hx
 ·split at hy
  ·rename_i c1 c2
   simp only [Option.some.injEq] at hx hy
   simp only [pcAt] at c1 c2 hx hy
   have := pc_le h (show j ≤ cs.length by omega) hij
   omega
  ·cases hy
 ·cases hx
end Go.Proofs.YthppifcggmdmoaaGreatDoor

