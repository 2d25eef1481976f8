/- Part 42 of the proof of BookParses: no condition; what its declarations say stands at each. -/
import Derived.Test.YthppifcggmdmoaaGreatDoorJ41
import Derived.Test.YthppifcggmdmoaaGreatDoorJ17
import Derived.Test.YthppifcggmdmoaaGreatDoorJ35
namespace Go.Proofs.YthppifcggmdmoaaGreatDoor
open Go.RowKit
set_option linter.unusedVariables false
set_option linter.unusedSimpArgs false
attribute [local go_sem ↓] Go.wp_at_zero Go.wp_at_succ
theorem idx_has {zs : List ZoT} {nm : ByteArray} : decide (0 ≤ idxOfF (fun z => sEq z.name nm) zs 0) = hasZ zs nm := any_idx zs 0
theorem idx_hasL {ls : List LkT} {nm : ByteArray} : decide (0 ≤ idxOfF (fun z => sEq z.1 nm) ls 0) = hasL ls nm := any_idx ls 0
set_option maxRecDepth 100000 in
set_option maxHeartbeats 8000000 in
theorem r_BookCheck' (AR AZ AL : Option Addr) (cR cZ cL : Nat) (rs : List RuT) (zs : List ZoT) (ls : List LkT) (w : World) (H : BkOk w w.heap.size ⟨AR, AZ, AL, cR, cZ, cL, rs, zs, ls⟩) :
  Calls Tryz.prog 29 #[.agg #[.slice AR rs.length cR, .slice AZ zs.length cZ, .slice AL ls.length cL]] w fun e w' => e = .returned (.int .i64 (bookE rs zs ls)) ∧ Below w.heap.size w w' := by
 have hRR := H.R
 have hRO := H.rs
 have h1 := H.hR
 have h2 := H.mR
 have h3 := H.hZ
 have h4 := H.mZ
 have h5 := H.hL
 have h6 := H.mL
 simp only at hRR hRO h1 h2 h3 h4 h5 h6
 unfold maxLen at h2 h4 h6
 have X1 := TK.box w #[.slice AR rs.length cR, .slice AZ zs.length cZ, .slice AL ls.length cL] 26
 have HX1 := Lib.hid X1
 have hcs := X1.1
 have hcz := X1.2.1
 have HH := Lib.hid H
 have HRR := Lib.hid hRR
 have HRO := Lib.hid hRO
 clear X1 H hRR hRO
 by_cases s1 : 40 < rs.length
 ·have HE := Lib.hid (show bookE rs zs ls = 2 by rw [bookE, if_pos (Or.inl s1)])
  go_enter Tryz.func29, Tryz.ntmps29
  go_wp2_with fail
  go_ret
  exact ⟨ret_int HE.out.symm, HX1.out.2.2⟩
 ·by_cases s2 : 20 < zs.length
  ·have HE := Lib.hid (show bookE rs zs ls = 2 by rw [bookE, if_pos (Or.inr (Or.inl s2))])
   go_enter Tryz.func29, Tryz.ntmps29
   go_wp2_with fail
   go_ret
   exact ⟨ret_int HE.out.symm, HX1.out.2.2⟩
  ·by_cases s3 : 20 < ls.length
   ·have HE := Lib.hid (show bookE rs zs ls = 2 by rw [bookE, if_pos (Or.inr (Or.inr s3))])
    go_enter Tryz.func29, Tryz.ntmps29
    go_wp2_with fail
    go_ret
    exact ⟨ret_int HE.out.symm, HX1.out.2.2⟩
   ·have HS := Lib.hid (show ¬ (40 < rs.length ∨ 20 < zs.length ∨ 20 < ls.length) by omega)
    go_enter Tryz.func29, Tryz.ntmps29
    go_wp2_with fail
    clear hcs hcz
    go_loopw [31] (fun i wr => ∃ k : Nat, k ≤ rs.length ∧ i = .int .i64 k ∧ Hid (∀ q, q < k → ruEr rs[q]! = 0) ∧ TK w wr #[.slice AR rs.length cR, .slice AZ zs.length cZ, .slice AL ls.length cL]) (fun i _ => rs.length - (intOf i).toNat)
    case atStart => exact ⟨0, Nat.zero_le _, rfl, Lib.hid (fun q h => absurd h (by omega)), HX1.out⟩
    case round =>
     obtain ⟨k, hk, rfl, HQ, hT⟩ := hrel
     have HT := Lib.hid hT
     by_cases hlt : k < rs.length
     ·obtain ⟨b, o, rfl, hb, c0, c1, c2, c3, c4, c5, c6, c7, c8, c9, c10⟩ := ru_at (HRR.out.below hT.2.2) hlt
      have hz := hT.2.1
      have hb' : b < wr.heap.size := by omega
      have hi1 : (0 : Int) ≤ (k : Int) := by omega
      have hi2 : (k : Int) < (rs.length : Int) := by omega
      have hro := HRO.out _ (List.getElem_mem hlt)
      have hro1 := hro.1
      have hro2 := hro.2.1
      have HV := Lib.hid (show ruEr rs[k]! = ruEr rs[k] by rw [get_bang hlt])
      obtain ⟨r, hr⟩ : ∃ r, rs[k] = r := ⟨_, rfl⟩
      rw [hr] at c0 c1 c2 c3 c4 c5 c6 c7 c8 c9 c10 hro1 hro2 HV
      have HC := Lib.hid (r_RuleCheck r.name r.letter r.f r.t r.m r.k r.wd r.n r.a r.b r.sv hro1 hro2 (wr.alloc (.cells (ruA r) 70)))
      clear hr hT hro
      obtain ⟨n, hn⟩ : ∃ n, ruleE r.name r.letter r.f r.t r.m r.k r.wd r.n r.a r.b r.sv = n := ⟨_, rfl⟩
      have HV2 := Lib.hid (show ruEr rs[k]! = n by rw [HV.out]; exact hn)
      rw [hn] at HC
      by_cases n0 : n = 0
      ·have hn0 : (n != 0) = false := by rw [n0]; rfl
       have HQ2 := Lib.hid (show ∀ q, q < k + 1 → ruEr rs[q]! = 0 from fun q hq => if h : q < k then HQ.out q h else (by obtain rfl : q = k := (by omega); rw [HV2.out, n0]))
       clear n0 hn HQ HV HV2
       go_wp2_with fail
       refine HC.out.mono ?_
       rintro e w3 ⟨rfl, hb3⟩
       go_wp2_with fail
       exact ⟨⟨k + 1, by omega, by go_num, HQ2, (HT.out.alloc _).step hb3⟩, by simp [intOf]; omega⟩
      ·have hn0 : (n != 0) = true := by rw [bne_iff_ne]; exact n0
       have HE := Lib.hid (bookE_ru HS.out ((firE_at (f := fun j => ruEr rs[j]!) HQ.out (by show ruEr rs[k]! ≠ 0; rw [HV2.out]; exact n0) hlt).trans HV2.out) n0)
       clear n0 hn HQ HV HV2
       go_wp2_with fail
       refine HC.out.mono ?_
       rintro e w3 ⟨rfl, hb3⟩
       go_wp2_with fail
       go_ret
       exact ⟨ret_int HE.out.symm, ((HT.out.alloc _).step hb3).2.2⟩
     ·obtain rfl : k = rs.length := by omega
      have HR0 := Lib.hid (firE_zero (f := fun j => ruEr rs[j]!) HQ.out)
      have hcs := hT.1
      have hcz := hT.2.1
      have HTr := Lib.hid hT
      clear hT HQ HT
      go_wp2_with fail
      clear hcs hcz
      go_loopw [44] (fun i wr => ∃ k : Nat, k ≤ zs.length ∧ i = .int .i64 k ∧ Hid (∀ q, q < k → zoE rs zs q = 0) ∧ TK w wr #[.slice AR rs.length cR, .slice AZ zs.length cZ, .slice AL ls.length cL]) (fun i _ => zs.length - (intOf i).toNat)
      case atStart => exact ⟨0, Nat.zero_le _, rfl, Lib.hid (fun q h => absurd h (by omega)), HTr.out⟩
      case round =>
       clear HTr
       obtain ⟨k, hk, rfl, HQ, hT⟩ := hrel
       have HT := Lib.hid hT
       have hcs := hT.1
       have hcz := hT.2.1
       by_cases hlt : k < zs.length
       ·have hbz := hT.2.2
        have HZw := Lib.hid (HH.out.Z.below hbz)
        obtain ⟨b, o, rfl, hb, c0, c1⟩ := zo_at (show SlAt wr w.heap.size 2 AZ (zs.map zoC) from HZw.out) hlt
        have hi1 : (0 : Int) ≤ (k : Int) := by omega
        have hi2 : (k : Int) < (zs.length : Int) := by omega
        have hi3 : (k : Int) ≤ (cZ : Int) := by omega
        have hb' : b < wr.heap.size := by omega
        have hzo := HH.out.zs _ (List.getElem_mem hlt)
        have HZ := Lib.hid (show zs[k]! = zs[k] from get_bang hlt)
        obtain ⟨⟨nm, A, cap, l⟩, hz⟩ : ∃ z, zs[k] = z := ⟨_, rfl⟩
        simp only [hz] at c0 c1 hzo HZ
        obtain ⟨y1, y2, y3, y4, y5⟩ := hzo
        simp only at y1 y2 y3 y4 y5
        have y4' := y4
        unfold maxLen at y4'
        have X2 := TK.box wr (zoA nm A cap l) 75
        have HBx := Lib.hid X2.2.2
        have fb := fun i => (HBx.out.cell (p := ⟨w.heap.size, i, none⟩) hcz).trans (hcs i)
        have fbl := Nat.lt_of_lt_of_le hcz HBx.out.size
        have fz := X2.1
        have fzl := X2.2.1
        have hlk : (zs.take k).length = k := by rw [List.length_take]; omega
        have HY2 := Lib.hid y2
        clear hz hT y2 X2
        cases hN : isNameB nm.data.toList with
        | false =>
         have hzE : zoE rs zs k = 3 := by rw [zoE, HZ.out, if_pos hN]
         have HE := Lib.hid (bookE_zo (ls := ls) HS.out HR0.out ((firE_at HQ.out (by rw [hzE]; decide) hlt).trans hzE) (by decide))
         clear hzE HQ
         go_wp2_with (go_at_call 27; refine (r_IsName _ y1 _).mono ?_; rintro e w3 ⟨rfl, hb3⟩)
         go_ret
         exact ⟨ret_int HE.out.symm, HT.out.2.2.trans ((HBx.out.trans (hb3.mono HBx.out.size)).mono HT.out.2.2.size)⟩
        | true =>
         go_upto_region 15 with (go_at_call 27; refine (r_IsName _ y1 _).mono ?_; rintro e w3 ⟨rfl, hb3⟩)
         have HB3 := Lib.hid (HBx.out.trans (hb3.mono HBx.out.size))
         have gb := fun i => (hb3.cell (p := ⟨w.heap.size, i, none⟩) fbl).trans (fb i)
         have gz := fun i => (hb3.cell (p := ⟨wr.heap.size, i, none⟩) fzl).trans (fz i)
         have gbl := Nat.lt_of_lt_of_le fbl hb3.size
         have gzl := Nat.lt_of_lt_of_le fzl hb3.size
         have HW3 := Lib.hid (HT.out.2.2.trans (HB3.out.mono HT.out.2.2.size))
         obtain ⟨v, hv⟩ : ∃ v, idxOfF (fun z : ZoT => sEq z.name nm) (zs.take k) 0 = v := ⟨_, rfl⟩
         have hvq := idx_has (zs := zs.take k) (nm := nm)
         rw [hv] at hvq
         have CZ := Lib.hid (fun (V : World) (hb : Below w3.heap.size w3 V) => (show Calls Tryz.prog 66 #[.slice (some ⟨b, o, none⟩) k cZ, .string nm] V fun e w' => e = .returned (.int .i64 v) ∧ Below V.heap.size V w' from by have := r_zoneAt (some ⟨b, o, none⟩) cZ (zs.take k) k nm V hlk ((sl_tk (HH.out.Z.below (HW3.out.trans (hb.mono HW3.out.size))) k).more (Nat.le_trans HW3.out.size hb.size)) (by omega) (by unfold maxLen; omega); rw [hv] at this; exact this))
         clear hb3 fb fz fbl fzl hv hlk c0 c1 hcs hcz
         refine wp_region_noPanic ?_
         refine wp_region_held_drew (S := fun W' : World => Below w3.heap.size w3 W') (by kernel_rfl) (Below.refl _ _).drew (fun hHeld0 => ?_)
         have hHeld : Below w3.heap.size w3 w3.drew := hHeld0
         clear hHeld0
         refine wpAnyH_take (i := 0) (v := ?_) rfl (by kernel_rfl) (by kernel_rfl) (by kernel_rfl) (fun _ _ _ h => h) (Or.inl ⟨by rfl, ?_⟩) hHeld ?_
         rotate_left
         ·intro wq hSw
          have qb := fun i => (hSw.cell (p := ⟨w.heap.size, i, none⟩) gbl).trans (gb i)
          have qz := fun i => (hSw.cell (p := ⟨wr.heap.size, i, none⟩) gzl).trans (gz i)
          go_simp
          try with_reducible rfl
         try simp only [Act.put, List.getElem_toArray, List.getElem_cons_succ, List.getElem_cons_zero, List.setIfInBounds_toArray, List.set_cons_zero, List.set_cons_succ]
         refine wpAnyH_take (i := 1) (v := ?_) rfl (by kernel_rfl) (by kernel_rfl) (by kernel_rfl) (fun _ _ _ h => h) (Or.inl ⟨by rfl, ?_⟩) hHeld ?_
         rotate_left
         ·intro wq hSw
          have qb := fun i => (hSw.cell (p := ⟨w.heap.size, i, none⟩) gbl).trans (gb i)
          have qz := fun i => (hSw.cell (p := ⟨wr.heap.size, i, none⟩) gzl).trans (gz i)
          go_simp
          try with_reducible rfl
         try simp only [Act.put, List.getElem_toArray, List.getElem_cons_succ, List.getElem_cons_zero, List.setIfInBounds_toArray, List.set_cons_zero, List.set_cons_succ]
         refine wpAnyH_take (i := 2) (v := ?_) rfl (by kernel_rfl) (by kernel_rfl) (by kernel_rfl) (fun _ _ _ h => h) (Or.inl ⟨by rfl, ?_⟩) hHeld ?_
         rotate_left
         ·intro wq hSw
          have qb := fun i => (hSw.cell (p := ⟨w.heap.size, i, none⟩) gbl).trans (gb i)
          have qz := fun i => (hSw.cell (p := ⟨wr.heap.size, i, none⟩) gzl).trans (gz i)
          go_simp
          try with_reducible rfl
         try simp only [Act.put, List.getElem_toArray, List.getElem_cons_succ, List.getElem_cons_zero, List.setIfInBounds_toArray, List.set_cons_zero, List.set_cons_succ]
         refine wpAnyH_take (i := 3) (v := ?_) rfl (by kernel_rfl) (by kernel_rfl) (by kernel_rfl) (fun _ _ _ h => h) (Or.inl ⟨by rfl, ?_⟩) hHeld ?_
         rotate_left
         ·intro wq hSw
          have qb := fun i => (hSw.cell (p := ⟨w.heap.size, i, none⟩) gbl).trans (gb i)
          have qz := fun i => (hSw.cell (p := ⟨wr.heap.size, i, none⟩) gzl).trans (gz i)
          go_simp
          try with_reducible rfl
         try simp only [Act.put, List.getElem_toArray, List.getElem_cons_succ, List.getElem_cons_zero, List.setIfInBounds_toArray, List.set_cons_zero, List.set_cons_succ]
         refine wpAnyH_take (i := 4) (v := ?_) rfl (by kernel_rfl) (by kernel_rfl) (by kernel_rfl) (fun _ _ _ h => h) (Or.inl ⟨by rfl, ?_⟩) hHeld ?_
         rotate_left
         ·intro wq hSw
          have qb := fun i => (hSw.cell (p := ⟨w.heap.size, i, none⟩) gbl).trans (gb i)
          have qz := fun i => (hSw.cell (p := ⟨wr.heap.size, i, none⟩) gzl).trans (gz i)
          go_simp
          try with_reducible rfl
         try simp only [Act.put, List.getElem_toArray, List.getElem_cons_succ, List.getElem_cons_zero, List.setIfInBounds_toArray, List.set_cons_zero, List.set_cons_succ]
         refine wpAnyH_take (i := 5) (v := ?_) rfl (by kernel_rfl) (by kernel_rfl) (by kernel_rfl) (fun _ _ _ h => h) (Or.inl ⟨by rfl, ?_⟩) hHeld ?_
         rotate_left
         ·intro wq hSw
          have qb := fun i => (hSw.cell (p := ⟨w.heap.size, i, none⟩) gbl).trans (gb i)
          have qz := fun i => (hSw.cell (p := ⟨wr.heap.size, i, none⟩) gzl).trans (gz i)
          go_simp
          try with_reducible rfl
         try simp only [Act.put, List.getElem_toArray, List.getElem_cons_succ, List.getElem_cons_zero, List.setIfInBounds_toArray, List.set_cons_zero, List.set_cons_succ]
         refine wpAnyH_ready (rs := [6]) (by kernel_rfl) (by simp) ?_
         refine AllReadyH.cons rfl (fun K hK => ?_) AllReadyH.nil
         go_simp
         go_at_call 66
         refine (CZ.out _ hHeld).mono ?_
         rintro e w8 ⟨rfl, hb8⟩
         have hS8 := hHeld.trans (hb8.mono hHeld.size)
         try go_wp2_with fail
         refine hK.out _ _ hS8 (fun hHeld2 => ?_)
         clear hK K hHeld hb8
         have hHeld := hS8
         clear hS8 hHeld2
         try simp only [Act.put, List.getElem_toArray, List.getElem_cons_succ, List.getElem_cons_zero, List.setIfInBounds_toArray, List.set_cons_zero, List.set_cons_succ]
         refine wpAnyH_take (i := 7) (v := ?_) rfl (by kernel_rfl) (by kernel_rfl) (by kernel_rfl) (fun _ _ _ h => h) (Or.inl ⟨by rfl, ?_⟩) hHeld ?_
         rotate_left
         ·intro wq hSw
          have qb := fun i => (hSw.cell (p := ⟨w.heap.size, i, none⟩) gbl).trans (gb i)
          have qz := fun i => (hSw.cell (p := ⟨wr.heap.size, i, none⟩) gzl).trans (gz i)
          go_simp
          try with_reducible rfl
         try simp only [Act.put, List.getElem_toArray, List.getElem_cons_succ, List.getElem_cons_zero, List.setIfInBounds_toArray, List.set_cons_zero, List.set_cons_succ]
         refine wpAnyH_done (by kernel_rfl) ?_ _
         refine NoPanic.normal ?_
         have kz := fun i => (hHeld.cell (p := ⟨wr.heap.size, i, none⟩) gzl).trans (gz i)
         have kb := fun i => (hHeld.cell (p := ⟨w.heap.size, i, none⟩) gbl).trans (gb i)
         have kbl := Nat.lt_of_lt_of_le gbl hHeld.size
         have kzl := Nat.lt_of_lt_of_le gzl hHeld.size
         have HW8 := Lib.hid (HW3.out.trans (hHeld.mono HW3.out.size))
         clear hHeld CZ gb gz gbl gzl
         cases hD : hasZ (zs.take k) nm with
         | true =>
          rw [hD] at hvq
          have hzE : zoE rs zs k = 7 := by rw [zoE, HZ.out, if_neg (by show ¬ isNameB nm.data.toList = false; rw [hN]; decide), if_pos hD]
          have HE := Lib.hid (bookE_zo (ls := ls) HS.out HR0.out ((firE_at HQ.out (by rw [hzE]; decide) hlt).trans hzE) (by decide))
          clear hzE HQ hD
          go_wp2_with fail
          go_ret
          exact ⟨ret_int HE.out.symm, HW8.out⟩
         | false =>
          rw [hD] at hvq
          have HE0 := Lib.hid (show zoE rs zs k = if l.length = 0 then 5 else if 700 < l.length then 2 else firE (erE rs l) l.length by rw [zoE, HZ.out, if_neg (by show ¬ isNameB nm.data.toList = false; rw [hN]; decide), if_neg (by rw [hD]; decide)])
          clear hD hN
          by_cases l0 : l.length = 0
          ·have hzE : zoE rs zs k = 5 := by rw [HE0.out, if_pos l0]
           have HE := Lib.hid (bookE_zo (ls := ls) HS.out HR0.out ((firE_at HQ.out (by rw [hzE]; decide) hlt).trans hzE) (by decide))
           have hl0 : ((l.length : Int) == 0) = true := by rw [l0]; rfl
           clear hzE HQ l0
           go_wp2_with fail
           go_ret
           exact ⟨ret_int HE.out.symm, HW8.out⟩
          ·have hl0 : ((l.length : Int) == 0) = false := by rw [beq_eq_false_iff_ne]; omega
           by_cases l7 : 700 < l.length
           ·have hzE : zoE rs zs k = 2 := by rw [HE0.out, if_neg l0, if_pos l7]
            have HE := Lib.hid (bookE_zo (ls := ls) HS.out HR0.out ((firE_at HQ.out (by rw [hzE]; decide) hlt).trans hzE) (by decide))
            clear hzE HQ l0
            go_wp2_with fail
            go_ret
            exact ⟨ret_int HE.out.symm, HW8.out⟩
           ·have HE1 := Lib.hid (show zoE rs zs k = firE (erE rs l) l.length by rw [HE0.out, if_neg l0, if_neg l7])
            clear l0 HE0
            go_wp2_with fail
            have HKB := Lib.hid kb
            have HKZ := Lib.hid (fun (V : World) (hb : Below w8.heap.size w8 V) => (show ∀ i, V.cell? ⟨wr.heap.size, i, none⟩ = (zoA nm A cap l : Array Value)[i]? from fun i => (hb.cell (p := ⟨wr.heap.size, i, none⟩) kzl).trans (kz i)))
            clear kb kz
            go_loopw [72] (fun i wq => ∃ j : Nat, j ≤ l.length ∧ i = .int .i64 j ∧ Hid (∀ q, q < j → erE rs l q = 0) ∧ Below w8.heap.size w8 wq) (fun i _ => l.length - (intOf i).toNat)
            case atStart => exact ⟨0, Nat.zero_le _, rfl, Lib.hid (fun q h => absurd h (by omega)), Below.refl _ _⟩
            case round =>
             obtain ⟨j, hj, rfl, HJ, hbq⟩ := hrel
             have kb := fun i => (hbq.cell (p := ⟨w.heap.size, i, none⟩) kbl).trans (HKB.out i)
             have kz := HKZ.out _ hbq
             have kbl2 := Nat.lt_of_lt_of_le kbl hbq.size
             have kzl2 := Nat.lt_of_lt_of_le kzl hbq.size
             have HBW := Lib.hid (HW8.out.trans (hbq.mono HW8.out.size))
             have HBQ := Lib.hid hbq
             clear hbq
             by_cases hjl : j < l.length
             ·have HC := Lib.hid (r_eraCheck AR (some ⟨b, o, none⟩) AL A cR cZ cL zs.length ls.length cap rs l j wr ((HRR.out.below HBW.out).more HBW.out.size) HRO.out h1 (by unfold maxLen; omega) (by omega) ((HY2.out.below HBW.out).more HBW.out.size) y5 y3 y4 hjl)
              obtain ⟨n, hn⟩ : ∃ n, erE rs l j = n := ⟨_, rfl⟩
              rw [hn] at HC
              by_cases n0 : n = 0
              ·have hn0 : (n != 0) = false := by rw [n0]; rfl
               have HJ2 := Lib.hid (show ∀ q, q < j + 1 → erE rs l q = 0 from fun q hq => if h : q < j then HJ.out q h else (by obtain rfl : q = j := (by omega); rw [hn, n0]))
               clear n0 hn HJ
               go_wp2_with fail
               refine HC.out.mono ?_
               rintro e w5 ⟨rfl, hb5⟩
               go_wp2_with fail
               exact ⟨⟨j + 1, by omega, by go_num, HJ2, HBQ.out.trans (hb5.mono HBQ.out.size)⟩, by simp [intOf]; omega⟩
              ·have hn0 : (n != 0) = true := by rw [bne_iff_ne]; exact n0
               have hzE : zoE rs zs k = n := by rw [HE1.out, firE_at HJ.out (by rw [hn]; exact n0) hjl, hn]
               have HE := Lib.hid (bookE_zo (ls := ls) HS.out HR0.out ((firE_at HQ.out (by rw [hzE]; exact n0) hlt).trans hzE) n0)
               clear n0 hn HJ hzE HQ
               go_wp2_with fail
               refine HC.out.mono ?_
               rintro e w5 ⟨rfl, hb5⟩
               go_wp2_with fail
               go_ret
               exact ⟨ret_int HE.out.symm, HBW.out.trans (hb5.mono HBW.out.size)⟩
             ·obtain rfl : j = l.length := by omega
              have hzE : zoE rs zs k = 0 := by rw [HE1.out, firE_zero HJ.out]
              have HQ2 := Lib.hid (show ∀ q, q < k + 1 → zoE rs zs q = 0 from fun q hq => if h : q < k then HQ.out q h else (by obtain rfl : q = k := (by omega); exact hzE))
              have HKT := Lib.hid (show TK w wr #[.slice AR rs.length cR, .slice (some ⟨b, o, none⟩) zs.length cZ, .slice AL ls.length cL] from ⟨kb, kbl2, HBW.out⟩)
              clear hzE HQ HJ
              go_wp2_with fail
              exact ⟨⟨k + 1, by omega, by go_num, HQ2, HKT.out⟩, by simp [intOf]; omega⟩
       ·obtain rfl : k = zs.length := by omega
        have HZ0 := Lib.hid (firE_zero HQ.out)
        clear HQ hT
        go_wp2_with fail
        clear hcs hcz
        go_loopw [88] (fun i wr => ∃ k : Nat, k ≤ ls.length ∧ i = .int .i64 k ∧ Hid (∀ q, q < k → lkE zs ls q = 0) ∧ TK w wr #[.slice AR rs.length cR, .slice AZ zs.length cZ, .slice AL ls.length cL]) (fun i _ => ls.length - (intOf i).toNat)
        case atStart => exact ⟨0, Nat.zero_le _, rfl, Lib.hid (fun q h => absurd h (by omega)), HT.out⟩
        case round =>
         clear HT
         obtain ⟨k, hk, rfl, HQ, hT⟩ := hrel
         have HT := Lib.hid hT
         have hcs := hT.1
         have hcz := hT.2.1
         by_cases hlt : k < ls.length
         ·have hbz := hT.2.2
          have HLw := Lib.hid (HH.out.L.below hbz)
          obtain ⟨b, o, rfl, hb, c0, c1⟩ := lk_at (show SlAt wr w.heap.size 2 AL (ls.map lkC) from HLw.out) hlt
          have hi1 : (0 : Int) ≤ (k : Int) := by omega
          have hi2 : (k : Int) < (ls.length : Int) := by omega
          have hi3 : (k : Int) ≤ (cL : Int) := by omega
          have hb' : b < wr.heap.size := by omega
          have hxo := HH.out.ls _ (List.getElem_mem hlt)
          have HX := Lib.hid (show ls[k]! = ls[k] from get_bang hlt)
          obtain ⟨⟨a, t⟩, hx⟩ : ∃ x, ls[k] = x := ⟨_, rfl⟩
          simp only [hx] at c0 c1 hxo HX
          obtain ⟨y1, y2⟩ := hxo
          have X2 := TK.box wr #[.string a, .string t] 77
          have HBx := Lib.hid X2.2.2
          have fb := fun i => (HBx.out.cell (p := ⟨w.heap.size, i, none⟩) hcz).trans (hcs i)
          have fbl := Nat.lt_of_lt_of_le hcz HBx.out.size
          have fz := X2.1
          have fzl := X2.2.1
          clear hx hT X2
          cases hA : isNameB a.data.toList with
          | false =>
           have hzE : lkE zs ls k = 3 := by rw [lkE, HX.out, if_pos (by show ¬ (isNameB a.data.toList = true ∧ _); rw [hA]; exact fun h => absurd h.1 (by decide))]
           have HE := Lib.hid (bookE_lk HS.out HR0.out HZ0.out ((firE_at HQ.out (by rw [hzE]; decide) hlt).trans hzE))
           have HN1 := Lib.hid (show Calls Tryz.prog 27 #[.string a] (wr.alloc (.cells #[.string a, .string t] 77)) _ from r_IsName a y1 _)
           rw [hA] at HN1
           clear hzE HQ hA
           go_wp2_with (go_at_call 27; (with_reducible refine (HN1.out.mono ?_)); rintro e w3 ⟨rfl, hb3⟩; have gb := fun i => (hb3.cell (p := ⟨w.heap.size, i, none⟩) fbl).trans (fb i); have gz := fun i => (hb3.cell (p := ⟨wr.heap.size, i, none⟩) fzl).trans (fz i); have gbl := Nat.lt_of_lt_of_le fbl hb3.size; have gzl := Nat.lt_of_lt_of_le fzl hb3.size)
           go_ret
           exact ⟨ret_int HE.out.symm, HT.out.2.2.trans ((HBx.out.trans (hb3.mono HBx.out.size)).mono HT.out.2.2.size)⟩
          | true =>
           have HN1 := Lib.hid (show Calls Tryz.prog 27 #[.string a] (wr.alloc (.cells #[.string a, .string t] 77)) _ from r_IsName a y1 _)
           have HN2 := Lib.hid (fun V : World => (show Calls Tryz.prog 27 #[.string t] V _ from r_IsName t y2 V))
           rw [hA] at HN1
           cases hT2 : isNameB t.data.toList with
           | false =>
            have hzE : lkE zs ls k = 3 := by rw [lkE, HX.out, if_pos (by show ¬ (_ ∧ isNameB t.data.toList = true); rw [hT2]; exact fun h => absurd h.2 (by decide))]
            have HE := Lib.hid (bookE_lk HS.out HR0.out HZ0.out ((firE_at HQ.out (by rw [hzE]; decide) hlt).trans hzE))
            rw [hT2] at HN2
            clear hzE HQ hA hT2
            go_wp2_with (first | (go_at_call 27; (with_reducible refine (HN1.out.mono ?_)); rintro e w3 ⟨rfl, hb3⟩; have gb := fun i => (hb3.cell (p := ⟨w.heap.size, i, none⟩) fbl).trans (fb i); have gz := fun i => (hb3.cell (p := ⟨wr.heap.size, i, none⟩) fzl).trans (fz i); have gbl := Nat.lt_of_lt_of_le fbl hb3.size; have gzl := Nat.lt_of_lt_of_le fzl hb3.size) | (go_at_call 27; (with_reducible refine ((HN2.out w3).mono ?_)); rintro e w4 ⟨rfl, hb4⟩))
            go_ret
            exact ⟨ret_int HE.out.symm, HT.out.2.2.trans ((HBx.out.trans ((hb3.trans (hb4.mono hb3.size)).mono HBx.out.size)).mono HT.out.2.2.size)⟩
           | true =>
            have HE0 := Lib.hid (show lkE zs ls k = if hasZ zs a = true ∨ hasL (ls.take k) a = true then 7 else if hasZ zs t = false ∧ hasL ls t = false then 6 else 0 by rw [lkE, HX.out, if_neg (not_not_intro ⟨hA, hT2⟩)])
            rw [hT2] at HN2
            clear hA hT2
            go_upto_region 34 with (first | (go_at_call 27; (with_reducible refine (HN1.out.mono ?_)); rintro e w3 ⟨rfl, hb3⟩; have gb := fun i => (hb3.cell (p := ⟨w.heap.size, i, none⟩) fbl).trans (fb i); have gz := fun i => (hb3.cell (p := ⟨wr.heap.size, i, none⟩) fzl).trans (fz i); have gbl := Nat.lt_of_lt_of_le fbl hb3.size; have gzl := Nat.lt_of_lt_of_le fzl hb3.size) | (go_at_call 27; (with_reducible refine ((HN2.out w3).mono ?_)); rintro e w4 ⟨rfl, hb4⟩))
            have HB4 := Lib.hid (HBx.out.trans ((hb3.trans (hb4.mono hb3.size)).mono HBx.out.size))
            have HW4 := Lib.hid (HT.out.2.2.trans (HB4.out.mono HT.out.2.2.size))
            have pb := fun i => (hb4.cell (p := ⟨w.heap.size, i, none⟩) gbl).trans (gb i)
            have pz := fun i => (hb4.cell (p := ⟨wr.heap.size, i, none⟩) gzl).trans (gz i)
            have pbl := Nat.lt_of_lt_of_le gbl hb4.size
            have pzl := Nat.lt_of_lt_of_le gzl hb4.size
            clear gb gz gbl gzl hb3 hb4 fb fz fbl fzl HN1 HN2 c0 c1
            have htk : (ls.take k).length = k := by rw [List.length_take]; omega
            obtain ⟨v1, hv1⟩ : ∃ v, idxOfF (fun z : ZoT => sEq z.name a) zs 0 = v := ⟨_, rfl⟩
            have hq1 := idx_has (zs := zs) (nm := a)
            rw [hv1] at hq1
            obtain ⟨v2, hv2⟩ : ∃ v, idxOfF (fun z : LkT => sEq z.1 a) (ls.take k) 0 = v := ⟨_, rfl⟩
            have hq2 := idx_hasL (ls := ls.take k) (nm := a)
            rw [hv2] at hq2
            have CZ := Lib.hid (fun (V : World) (hb : Below w4.heap.size w4 V) => (show Calls Tryz.prog 66 #[.slice AZ zs.length cZ, .string a] V fun e w' => e = .returned (.int .i64 v1) ∧ Below V.heap.size V w' from by have := r_zoneAt AZ cZ zs zs.length a V rfl ((HH.out.Z.below (HW4.out.trans (hb.mono HW4.out.size))).more (Nat.le_trans HW4.out.size hb.size)) (by omega) (by unfold maxLen; omega); rw [hv1] at this; exact this))
            have CL := Lib.hid (fun (V : World) (hb : Below w4.heap.size w4 V) => (show Calls Tryz.prog 68 #[.slice (some ⟨b, o, none⟩) k cL, .string a] V fun e w' => e = .returned (.int .i64 v2) ∧ Below V.heap.size V w' from by have := r_linkAt (some ⟨b, o, none⟩) cL (ls.take k) k a V htk ((sl_tk (HH.out.L.below (HW4.out.trans (hb.mono HW4.out.size))) k).more (Nat.le_trans HW4.out.size hb.size)) (by omega) (by unfold maxLen; omega); rw [hv2] at this; exact this))
            clear hv1 hv2 htk hcs hcz
            cases hz : hasZ zs a with
            | true =>
             rw [hz] at hq1
             have hzE : lkE zs ls k = 7 := by rw [HE0.out, if_pos (Or.inl hz)]
             have HE := Lib.hid (bookE_lk HS.out HR0.out HZ0.out ((firE_at HQ.out (by rw [hzE]; decide) hlt).trans hzE))
             clear hzE HQ HE0
             clear hz hq2 CL
             refine wp_region_noPanic ?_
             refine wp_region_held_drew (S := fun W' : World => Below w4.heap.size w4 W') (by kernel_rfl) (Below.refl _ _).drew (fun hHeld0 => ?_)
             have hHeld : Below w4.heap.size w4 w4.drew := hHeld0
             clear hHeld0
             refine wpAnyH_take (i := 0) (v := ?_) rfl (by kernel_rfl) (by kernel_rfl) (by kernel_rfl) (fun _ _ _ h => h) (Or.inl ⟨by rfl, ?_⟩) hHeld ?_
             rotate_left
             ·intro wq hSw
              have qb := fun i => (hSw.cell (p := ⟨w.heap.size, i, none⟩) pbl).trans (pb i)
              have qz := fun i => (hSw.cell (p := ⟨wr.heap.size, i, none⟩) pzl).trans (pz i)
              go_simp
              try with_reducible rfl
             try simp only [Act.put, List.getElem_toArray, List.getElem_cons_succ, List.getElem_cons_zero, List.setIfInBounds_toArray, List.set_cons_zero, List.set_cons_succ]
             refine wpAnyH_take (i := 1) (v := ?_) rfl (by kernel_rfl) (by kernel_rfl) (by kernel_rfl) (fun _ _ _ h => h) (Or.inl ⟨by rfl, ?_⟩) hHeld ?_
             rotate_left
             ·intro wq hSw
              have qb := fun i => (hSw.cell (p := ⟨w.heap.size, i, none⟩) pbl).trans (pb i)
              have qz := fun i => (hSw.cell (p := ⟨wr.heap.size, i, none⟩) pzl).trans (pz i)
              go_simp
              try with_reducible rfl
             try simp only [Act.put, List.getElem_toArray, List.getElem_cons_succ, List.getElem_cons_zero, List.setIfInBounds_toArray, List.set_cons_zero, List.set_cons_succ]
             refine wpAnyH_take (i := 2) (v := ?_) rfl (by kernel_rfl) (by kernel_rfl) (by kernel_rfl) (fun _ _ _ h => h) (Or.inl ⟨by rfl, ?_⟩) hHeld ?_
             rotate_left
             ·intro wq hSw
              have qb := fun i => (hSw.cell (p := ⟨w.heap.size, i, none⟩) pbl).trans (pb i)
              have qz := fun i => (hSw.cell (p := ⟨wr.heap.size, i, none⟩) pzl).trans (pz i)
              go_simp
              try with_reducible rfl
             try simp only [Act.put, List.getElem_toArray, List.getElem_cons_succ, List.getElem_cons_zero, List.setIfInBounds_toArray, List.set_cons_zero, List.set_cons_succ]
             refine wpAnyH_take (i := 3) (v := ?_) rfl (by kernel_rfl) (by kernel_rfl) (by kernel_rfl) (fun _ _ _ h => h) (Or.inl ⟨by rfl, ?_⟩) hHeld ?_
             rotate_left
             ·intro wq hSw
              have qb := fun i => (hSw.cell (p := ⟨w.heap.size, i, none⟩) pbl).trans (pb i)
              have qz := fun i => (hSw.cell (p := ⟨wr.heap.size, i, none⟩) pzl).trans (pz i)
              go_simp
              try with_reducible rfl
             try simp only [Act.put, List.getElem_toArray, List.getElem_cons_succ, List.getElem_cons_zero, List.setIfInBounds_toArray, List.set_cons_zero, List.set_cons_succ]
             refine wpAnyH_ready (rs := [4]) (by kernel_rfl) (by simp) ?_
             refine AllReadyH.cons rfl (fun K hK => ?_) AllReadyH.nil
             go_simp
             go_at_call 66
             refine (CZ.out _ hHeld).mono ?_
             rintro e w8 ⟨rfl, hb8⟩
             have hS8 := hHeld.trans (hb8.mono hHeld.size)
             try go_wp2_with fail
             refine hK.out _ _ hS8 (fun hHeld2 => ?_)
             clear hK K hHeld hb8
             have hHeld := hS8
             clear hS8 hHeld2
             try simp only [Act.put, List.getElem_toArray, List.getElem_cons_succ, List.getElem_cons_zero, List.setIfInBounds_toArray, List.set_cons_zero, List.set_cons_succ]
             refine wpAnyH_take (i := 5) (v := ?_) rfl (by kernel_rfl) (by kernel_rfl) (by kernel_rfl) (fun _ _ _ h => h) (Or.inl ⟨by rfl, ?_⟩) hHeld ?_
             rotate_left
             ·intro wq hSw
              have qb := fun i => (hSw.cell (p := ⟨w.heap.size, i, none⟩) pbl).trans (pb i)
              have qz := fun i => (hSw.cell (p := ⟨wr.heap.size, i, none⟩) pzl).trans (pz i)
              go_simp
              try with_reducible rfl
             try simp only [Act.put, List.getElem_toArray, List.getElem_cons_succ, List.getElem_cons_zero, List.setIfInBounds_toArray, List.set_cons_zero, List.set_cons_succ]
             refine wpAnyH_take (i := 6) (v := ?_) rfl (by kernel_rfl) (by kernel_rfl) (by kernel_rfl) (fun _ _ _ h => h) (Or.inl ⟨by rfl, ?_⟩) hHeld ?_
             rotate_left
             ·intro wq hSw
              have qb := fun i => (hSw.cell (p := ⟨w.heap.size, i, none⟩) pbl).trans (pb i)
              have qz := fun i => (hSw.cell (p := ⟨wr.heap.size, i, none⟩) pzl).trans (pz i)
              go_simp
              try with_reducible rfl
             try simp only [Act.put, List.getElem_toArray, List.getElem_cons_succ, List.getElem_cons_zero, List.setIfInBounds_toArray, List.set_cons_zero, List.set_cons_succ]
             refine wpAnyH_take (i := 7) (v := undef) rfl (by kernel_rfl) (by kernel_rfl) (by kernel_rfl) (fun _ _ _ h => h) (Or.inr ⟨by kernel_rfl, rfl⟩) hHeld ?_
             try simp only [Act.put, List.getElem_toArray, List.getElem_cons_succ, List.getElem_cons_zero, List.setIfInBounds_toArray, List.set_cons_zero, List.set_cons_succ]
             refine wpAnyH_take (i := 8) (v := undef) rfl (by kernel_rfl) (by kernel_rfl) (by kernel_rfl) (fun _ _ _ h => h) (Or.inr ⟨by kernel_rfl, rfl⟩) hHeld ?_
             try simp only [Act.put, List.getElem_toArray, List.getElem_cons_succ, List.getElem_cons_zero, List.setIfInBounds_toArray, List.set_cons_zero, List.set_cons_succ]
             refine wpAnyH_take (i := 9) (v := undef) rfl (by kernel_rfl) (by kernel_rfl) (by kernel_rfl) (fun _ _ _ h => h) (Or.inr ⟨by kernel_rfl, rfl⟩) hHeld ?_
             try simp only [Act.put, List.getElem_toArray, List.getElem_cons_succ, List.getElem_cons_zero, List.setIfInBounds_toArray, List.set_cons_zero, List.set_cons_succ]
             refine wpAnyH_take (i := 10) (v := undef) rfl (by kernel_rfl) (by kernel_rfl) (by kernel_rfl) (fun _ _ _ h => h) (Or.inr ⟨by kernel_rfl, rfl⟩) hHeld ?_
             try simp only [Act.put, List.getElem_toArray, List.getElem_cons_succ, List.getElem_cons_zero, List.setIfInBounds_toArray, List.set_cons_zero, List.set_cons_succ]
             refine wpAnyH_take (i := 11) (v := undef) rfl (by kernel_rfl) (by kernel_rfl) (by kernel_rfl) (fun _ _ _ h => h) (Or.inr ⟨by kernel_rfl, rfl⟩) hHeld ?_
             try simp only [Act.put, List.getElem_toArray, List.getElem_cons_succ, List.getElem_cons_zero, List.setIfInBounds_toArray, List.set_cons_zero, List.set_cons_succ]
             refine wpAnyH_take (i := 12) (v := undef) rfl (by kernel_rfl) (by kernel_rfl) (by kernel_rfl) (fun _ _ _ h => h) (Or.inr ⟨by kernel_rfl, rfl⟩) hHeld ?_
             try simp only [Act.put, List.getElem_toArray, List.getElem_cons_succ, List.getElem_cons_zero, List.setIfInBounds_toArray, List.set_cons_zero, List.set_cons_succ]
             refine wpAnyH_take (i := 13) (v := undef) rfl (by kernel_rfl) (by kernel_rfl) (by kernel_rfl) (fun _ _ _ h => h) (Or.inr ⟨by kernel_rfl, rfl⟩) hHeld ?_
             try simp only [Act.put, List.getElem_toArray, List.getElem_cons_succ, List.getElem_cons_zero, List.setIfInBounds_toArray, List.set_cons_zero, List.set_cons_succ]
             refine wpAnyH_take (i := 14) (v := undef) rfl (by kernel_rfl) (by kernel_rfl) (by kernel_rfl) (fun _ _ _ h => h) (Or.inr ⟨by kernel_rfl, rfl⟩) hHeld ?_
             try simp only [Act.put, List.getElem_toArray, List.getElem_cons_succ, List.getElem_cons_zero, List.setIfInBounds_toArray, List.set_cons_zero, List.set_cons_succ]
             refine wpAnyH_take (i := 15) (v := ?_) rfl (by kernel_rfl) (by kernel_rfl) (by kernel_rfl) (fun _ _ _ h => h) (Or.inl ⟨by rfl, ?_⟩) hHeld ?_
             rotate_left
             ·intro wq hSw
              have qb := fun i => (hSw.cell (p := ⟨w.heap.size, i, none⟩) pbl).trans (pb i)
              have qz := fun i => (hSw.cell (p := ⟨wr.heap.size, i, none⟩) pzl).trans (pz i)
              go_simp
              try with_reducible rfl
             try simp only [Act.put, List.getElem_toArray, List.getElem_cons_succ, List.getElem_cons_zero, List.setIfInBounds_toArray, List.set_cons_zero, List.set_cons_succ]
             refine wpAnyH_done (by kernel_rfl) ?_ _
             refine NoPanic.normal ?_
             go_wp2_with fail
             go_ret
             exact ⟨ret_int HE.out.symm, HW4.out.trans (hHeld.mono HW4.out.size)⟩
            | false =>
             rw [hz] at hq1
             cases hl : hasL (ls.take k) a with
             | true =>
              rw [hl] at hq2
              have hzE : lkE zs ls k = 7 := by rw [HE0.out, if_pos (Or.inr hl)]
              have HE := Lib.hid (bookE_lk HS.out HR0.out HZ0.out ((firE_at HQ.out (by rw [hzE]; decide) hlt).trans hzE))
              clear hzE HQ HE0
              clear hz hl
              refine wp_region_noPanic ?_
              refine wp_region_held_drew (S := fun W' : World => Below w4.heap.size w4 W') (by kernel_rfl) (Below.refl _ _).drew (fun hHeld0 => ?_)
              have hHeld : Below w4.heap.size w4 w4.drew := hHeld0
              clear hHeld0
              refine wpAnyH_take (i := 0) (v := ?_) rfl (by kernel_rfl) (by kernel_rfl) (by kernel_rfl) (fun _ _ _ h => h) (Or.inl ⟨by rfl, ?_⟩) hHeld ?_
              rotate_left
              ·intro wq hSw
               have qb := fun i => (hSw.cell (p := ⟨w.heap.size, i, none⟩) pbl).trans (pb i)
               have qz := fun i => (hSw.cell (p := ⟨wr.heap.size, i, none⟩) pzl).trans (pz i)
               go_simp
               try with_reducible rfl
              try simp only [Act.put, List.getElem_toArray, List.getElem_cons_succ, List.getElem_cons_zero, List.setIfInBounds_toArray, List.set_cons_zero, List.set_cons_succ]
              refine wpAnyH_take (i := 1) (v := ?_) rfl (by kernel_rfl) (by kernel_rfl) (by kernel_rfl) (fun _ _ _ h => h) (Or.inl ⟨by rfl, ?_⟩) hHeld ?_
              rotate_left
              ·intro wq hSw
               have qb := fun i => (hSw.cell (p := ⟨w.heap.size, i, none⟩) pbl).trans (pb i)
               have qz := fun i => (hSw.cell (p := ⟨wr.heap.size, i, none⟩) pzl).trans (pz i)
               go_simp
               try with_reducible rfl
              try simp only [Act.put, List.getElem_toArray, List.getElem_cons_succ, List.getElem_cons_zero, List.setIfInBounds_toArray, List.set_cons_zero, List.set_cons_succ]
              refine wpAnyH_take (i := 2) (v := ?_) rfl (by kernel_rfl) (by kernel_rfl) (by kernel_rfl) (fun _ _ _ h => h) (Or.inl ⟨by rfl, ?_⟩) hHeld ?_
              rotate_left
              ·intro wq hSw
               have qb := fun i => (hSw.cell (p := ⟨w.heap.size, i, none⟩) pbl).trans (pb i)
               have qz := fun i => (hSw.cell (p := ⟨wr.heap.size, i, none⟩) pzl).trans (pz i)
               go_simp
               try with_reducible rfl
              try simp only [Act.put, List.getElem_toArray, List.getElem_cons_succ, List.getElem_cons_zero, List.setIfInBounds_toArray, List.set_cons_zero, List.set_cons_succ]
              refine wpAnyH_take (i := 3) (v := ?_) rfl (by kernel_rfl) (by kernel_rfl) (by kernel_rfl) (fun _ _ _ h => h) (Or.inl ⟨by rfl, ?_⟩) hHeld ?_
              rotate_left
              ·intro wq hSw
               have qb := fun i => (hSw.cell (p := ⟨w.heap.size, i, none⟩) pbl).trans (pb i)
               have qz := fun i => (hSw.cell (p := ⟨wr.heap.size, i, none⟩) pzl).trans (pz i)
               go_simp
               try with_reducible rfl
              try simp only [Act.put, List.getElem_toArray, List.getElem_cons_succ, List.getElem_cons_zero, List.setIfInBounds_toArray, List.set_cons_zero, List.set_cons_succ]
              refine wpAnyH_ready (rs := [4]) (by kernel_rfl) (by simp) ?_
              refine AllReadyH.cons rfl (fun K hK => ?_) AllReadyH.nil
              go_simp
              go_at_call 66
              refine (CZ.out _ hHeld).mono ?_
              rintro e w8 ⟨rfl, hb8⟩
              have hS8 := hHeld.trans (hb8.mono hHeld.size)
              try go_wp2_with fail
              refine hK.out _ _ hS8 (fun hHeld2 => ?_)
              clear hK K hHeld hb8
              have hHeld := hS8
              clear hS8 hHeld2
              try simp only [Act.put, List.getElem_toArray, List.getElem_cons_succ, List.getElem_cons_zero, List.setIfInBounds_toArray, List.set_cons_zero, List.set_cons_succ]
              refine wpAnyH_take (i := 5) (v := ?_) rfl (by kernel_rfl) (by kernel_rfl) (by kernel_rfl) (fun _ _ _ h => h) (Or.inl ⟨by rfl, ?_⟩) hHeld ?_
              rotate_left
              ·intro wq hSw
               have qb := fun i => (hSw.cell (p := ⟨w.heap.size, i, none⟩) pbl).trans (pb i)
               have qz := fun i => (hSw.cell (p := ⟨wr.heap.size, i, none⟩) pzl).trans (pz i)
               go_simp
               try with_reducible rfl
              try simp only [Act.put, List.getElem_toArray, List.getElem_cons_succ, List.getElem_cons_zero, List.setIfInBounds_toArray, List.set_cons_zero, List.set_cons_succ]
              refine wpAnyH_take (i := 6) (v := ?_) rfl (by kernel_rfl) (by kernel_rfl) (by kernel_rfl) (fun _ _ _ h => h) (Or.inl ⟨by rfl, ?_⟩) hHeld ?_
              rotate_left
              ·intro wq hSw
               have qb := fun i => (hSw.cell (p := ⟨w.heap.size, i, none⟩) pbl).trans (pb i)
               have qz := fun i => (hSw.cell (p := ⟨wr.heap.size, i, none⟩) pzl).trans (pz i)
               go_simp
               try with_reducible rfl
              try simp only [Act.put, List.getElem_toArray, List.getElem_cons_succ, List.getElem_cons_zero, List.setIfInBounds_toArray, List.set_cons_zero, List.set_cons_succ]
              refine wpAnyH_take (i := 7) (v := ?_) rfl (by kernel_rfl) (by kernel_rfl) (by kernel_rfl) (fun _ _ _ h => h) (Or.inl ⟨by rfl, ?_⟩) hHeld ?_
              rotate_left
              ·intro wq hSw
               have qb := fun i => (hSw.cell (p := ⟨w.heap.size, i, none⟩) pbl).trans (pb i)
               have qz := fun i => (hSw.cell (p := ⟨wr.heap.size, i, none⟩) pzl).trans (pz i)
               go_simp
               try with_reducible rfl
              try simp only [Act.put, List.getElem_toArray, List.getElem_cons_succ, List.getElem_cons_zero, List.setIfInBounds_toArray, List.set_cons_zero, List.set_cons_succ]
              refine wpAnyH_take (i := 8) (v := ?_) rfl (by kernel_rfl) (by kernel_rfl) (by kernel_rfl) (fun _ _ _ h => h) (Or.inl ⟨by rfl, ?_⟩) hHeld ?_
              rotate_left
              ·intro wq hSw
               have qb := fun i => (hSw.cell (p := ⟨w.heap.size, i, none⟩) pbl).trans (pb i)
               have qz := fun i => (hSw.cell (p := ⟨wr.heap.size, i, none⟩) pzl).trans (pz i)
               go_simp
               try with_reducible rfl
              try simp only [Act.put, List.getElem_toArray, List.getElem_cons_succ, List.getElem_cons_zero, List.setIfInBounds_toArray, List.set_cons_zero, List.set_cons_succ]
              refine wpAnyH_take (i := 9) (v := ?_) rfl (by kernel_rfl) (by kernel_rfl) (by kernel_rfl) (fun _ _ _ h => h) (Or.inl ⟨by rfl, ?_⟩) hHeld ?_
              rotate_left
              ·intro wq hSw
               have qb := fun i => (hSw.cell (p := ⟨w.heap.size, i, none⟩) pbl).trans (pb i)
               have qz := fun i => (hSw.cell (p := ⟨wr.heap.size, i, none⟩) pzl).trans (pz i)
               go_simp
               try with_reducible rfl
              try simp only [Act.put, List.getElem_toArray, List.getElem_cons_succ, List.getElem_cons_zero, List.setIfInBounds_toArray, List.set_cons_zero, List.set_cons_succ]
              refine wpAnyH_take (i := 10) (v := ?_) rfl (by kernel_rfl) (by kernel_rfl) (by kernel_rfl) (fun _ _ _ h => h) (Or.inl ⟨by rfl, ?_⟩) hHeld ?_
              rotate_left
              ·intro wq hSw
               have qb := fun i => (hSw.cell (p := ⟨w.heap.size, i, none⟩) pbl).trans (pb i)
               have qz := fun i => (hSw.cell (p := ⟨wr.heap.size, i, none⟩) pzl).trans (pz i)
               go_simp
               try with_reducible rfl
              try simp only [Act.put, List.getElem_toArray, List.getElem_cons_succ, List.getElem_cons_zero, List.setIfInBounds_toArray, List.set_cons_zero, List.set_cons_succ]
              refine wpAnyH_take (i := 11) (v := ?_) rfl (by kernel_rfl) (by kernel_rfl) (by kernel_rfl) (fun _ _ _ h => h) (Or.inl ⟨by rfl, ?_⟩) hHeld ?_
              rotate_left
              ·intro wq hSw
               have qb := fun i => (hSw.cell (p := ⟨w.heap.size, i, none⟩) pbl).trans (pb i)
               have qz := fun i => (hSw.cell (p := ⟨wr.heap.size, i, none⟩) pzl).trans (pz i)
               go_simp
               try with_reducible rfl
              try simp only [Act.put, List.getElem_toArray, List.getElem_cons_succ, List.getElem_cons_zero, List.setIfInBounds_toArray, List.set_cons_zero, List.set_cons_succ]
              refine wpAnyH_take (i := 12) (v := ?_) rfl (by kernel_rfl) (by kernel_rfl) (by kernel_rfl) (fun _ _ _ h => h) (Or.inl ⟨by rfl, ?_⟩) hHeld ?_
              rotate_left
              ·intro wq hSw
               have qb := fun i => (hSw.cell (p := ⟨w.heap.size, i, none⟩) pbl).trans (pb i)
               have qz := fun i => (hSw.cell (p := ⟨wr.heap.size, i, none⟩) pzl).trans (pz i)
               go_simp
               try with_reducible rfl
              try simp only [Act.put, List.getElem_toArray, List.getElem_cons_succ, List.getElem_cons_zero, List.setIfInBounds_toArray, List.set_cons_zero, List.set_cons_succ]
              refine wpAnyH_ready (rs := [13]) (by kernel_rfl) (by simp) ?_
              refine AllReadyH.cons rfl (fun K hK => ?_) AllReadyH.nil
              go_simp
              go_at_call 68
              refine (CL.out _ hHeld).mono ?_
              rintro e w8 ⟨rfl, hb8⟩
              have hS8 := hHeld.trans (hb8.mono hHeld.size)
              try go_wp2_with fail
              refine hK.out _ _ hS8 (fun hHeld2 => ?_)
              clear hK K hHeld hb8
              have hHeld := hS8
              clear hS8 hHeld2
              try simp only [Act.put, List.getElem_toArray, List.getElem_cons_succ, List.getElem_cons_zero, List.setIfInBounds_toArray, List.set_cons_zero, List.set_cons_succ]
              refine wpAnyH_take (i := 14) (v := ?_) rfl (by kernel_rfl) (by kernel_rfl) (by kernel_rfl) (fun _ _ _ h => h) (Or.inl ⟨by rfl, ?_⟩) hHeld ?_
              rotate_left
              ·intro wq hSw
               have qb := fun i => (hSw.cell (p := ⟨w.heap.size, i, none⟩) pbl).trans (pb i)
               have qz := fun i => (hSw.cell (p := ⟨wr.heap.size, i, none⟩) pzl).trans (pz i)
               go_simp
               try with_reducible rfl
              try simp only [Act.put, List.getElem_toArray, List.getElem_cons_succ, List.getElem_cons_zero, List.setIfInBounds_toArray, List.set_cons_zero, List.set_cons_succ]
              refine wpAnyH_take (i := 15) (v := ?_) rfl (by kernel_rfl) (by kernel_rfl) (by kernel_rfl) (fun _ _ _ h => h) (Or.inl ⟨by rfl, ?_⟩) hHeld ?_
              rotate_left
              ·intro wq hSw
               have qb := fun i => (hSw.cell (p := ⟨w.heap.size, i, none⟩) pbl).trans (pb i)
               have qz := fun i => (hSw.cell (p := ⟨wr.heap.size, i, none⟩) pzl).trans (pz i)
               go_simp
               try with_reducible rfl
              try simp only [Act.put, List.getElem_toArray, List.getElem_cons_succ, List.getElem_cons_zero, List.setIfInBounds_toArray, List.set_cons_zero, List.set_cons_succ]
              refine wpAnyH_done (by kernel_rfl) ?_ _
              refine NoPanic.normal ?_
              go_wp2_with fail
              go_ret
              exact ⟨ret_int HE.out.symm, HW4.out.trans (hHeld.mono HW4.out.size)⟩
             | false =>
              rw [hl] at hq2
              have HE1 := Lib.hid (show lkE zs ls k = if hasZ zs t = false ∧ hasL ls t = false then 6 else 0 by rw [HE0.out, if_neg (by rw [hz, hl]; decide)])
              clear hz hl HE0
              refine wp_region_noPanic ?_
              refine wp_region_held_drew (S := fun W' : World => Below w4.heap.size w4 W') (by kernel_rfl) (Below.refl _ _).drew (fun hHeld0 => ?_)
              have hHeld : Below w4.heap.size w4 w4.drew := hHeld0
              clear hHeld0
              refine wpAnyH_take (i := 0) (v := ?_) rfl (by kernel_rfl) (by kernel_rfl) (by kernel_rfl) (fun _ _ _ h => h) (Or.inl ⟨by rfl, ?_⟩) hHeld ?_
              rotate_left
              ·intro wq hSw
               have qb := fun i => (hSw.cell (p := ⟨w.heap.size, i, none⟩) pbl).trans (pb i)
               have qz := fun i => (hSw.cell (p := ⟨wr.heap.size, i, none⟩) pzl).trans (pz i)
               go_simp
               try with_reducible rfl
              try simp only [Act.put, List.getElem_toArray, List.getElem_cons_succ, List.getElem_cons_zero, List.setIfInBounds_toArray, List.set_cons_zero, List.set_cons_succ]
              refine wpAnyH_take (i := 1) (v := ?_) rfl (by kernel_rfl) (by kernel_rfl) (by kernel_rfl) (fun _ _ _ h => h) (Or.inl ⟨by rfl, ?_⟩) hHeld ?_
              rotate_left
              ·intro wq hSw
               have qb := fun i => (hSw.cell (p := ⟨w.heap.size, i, none⟩) pbl).trans (pb i)
               have qz := fun i => (hSw.cell (p := ⟨wr.heap.size, i, none⟩) pzl).trans (pz i)
               go_simp
               try with_reducible rfl
              try simp only [Act.put, List.getElem_toArray, List.getElem_cons_succ, List.getElem_cons_zero, List.setIfInBounds_toArray, List.set_cons_zero, List.set_cons_succ]
              refine wpAnyH_take (i := 2) (v := ?_) rfl (by kernel_rfl) (by kernel_rfl) (by kernel_rfl) (fun _ _ _ h => h) (Or.inl ⟨by rfl, ?_⟩) hHeld ?_
              rotate_left
              ·intro wq hSw
               have qb := fun i => (hSw.cell (p := ⟨w.heap.size, i, none⟩) pbl).trans (pb i)
               have qz := fun i => (hSw.cell (p := ⟨wr.heap.size, i, none⟩) pzl).trans (pz i)
               go_simp
               try with_reducible rfl
              try simp only [Act.put, List.getElem_toArray, List.getElem_cons_succ, List.getElem_cons_zero, List.setIfInBounds_toArray, List.set_cons_zero, List.set_cons_succ]
              refine wpAnyH_take (i := 3) (v := ?_) rfl (by kernel_rfl) (by kernel_rfl) (by kernel_rfl) (fun _ _ _ h => h) (Or.inl ⟨by rfl, ?_⟩) hHeld ?_
              rotate_left
              ·intro wq hSw
               have qb := fun i => (hSw.cell (p := ⟨w.heap.size, i, none⟩) pbl).trans (pb i)
               have qz := fun i => (hSw.cell (p := ⟨wr.heap.size, i, none⟩) pzl).trans (pz i)
               go_simp
               try with_reducible rfl
              try simp only [Act.put, List.getElem_toArray, List.getElem_cons_succ, List.getElem_cons_zero, List.setIfInBounds_toArray, List.set_cons_zero, List.set_cons_succ]
              refine wpAnyH_ready (rs := [4]) (by kernel_rfl) (by simp) ?_
              refine AllReadyH.cons rfl (fun K hK => ?_) AllReadyH.nil
              go_simp
              go_at_call 66
              refine (CZ.out _ hHeld).mono ?_
              rintro e w8 ⟨rfl, hb8⟩
              have hS8 := hHeld.trans (hb8.mono hHeld.size)
              try go_wp2_with fail
              refine hK.out _ _ hS8 (fun hHeld2 => ?_)
              clear hK K hHeld hb8
              have hHeld := hS8
              clear hS8 hHeld2
              try simp only [Act.put, List.getElem_toArray, List.getElem_cons_succ, List.getElem_cons_zero, List.setIfInBounds_toArray, List.set_cons_zero, List.set_cons_succ]
              refine wpAnyH_take (i := 5) (v := ?_) rfl (by kernel_rfl) (by kernel_rfl) (by kernel_rfl) (fun _ _ _ h => h) (Or.inl ⟨by rfl, ?_⟩) hHeld ?_
              rotate_left
              ·intro wq hSw
               have qb := fun i => (hSw.cell (p := ⟨w.heap.size, i, none⟩) pbl).trans (pb i)
               have qz := fun i => (hSw.cell (p := ⟨wr.heap.size, i, none⟩) pzl).trans (pz i)
               go_simp
               try with_reducible rfl
              try simp only [Act.put, List.getElem_toArray, List.getElem_cons_succ, List.getElem_cons_zero, List.setIfInBounds_toArray, List.set_cons_zero, List.set_cons_succ]
              refine wpAnyH_take (i := 6) (v := ?_) rfl (by kernel_rfl) (by kernel_rfl) (by kernel_rfl) (fun _ _ _ h => h) (Or.inl ⟨by rfl, ?_⟩) hHeld ?_
              rotate_left
              ·intro wq hSw
               have qb := fun i => (hSw.cell (p := ⟨w.heap.size, i, none⟩) pbl).trans (pb i)
               have qz := fun i => (hSw.cell (p := ⟨wr.heap.size, i, none⟩) pzl).trans (pz i)
               go_simp
               try with_reducible rfl
              try simp only [Act.put, List.getElem_toArray, List.getElem_cons_succ, List.getElem_cons_zero, List.setIfInBounds_toArray, List.set_cons_zero, List.set_cons_succ]
              refine wpAnyH_take (i := 7) (v := ?_) rfl (by kernel_rfl) (by kernel_rfl) (by kernel_rfl) (fun _ _ _ h => h) (Or.inl ⟨by rfl, ?_⟩) hHeld ?_
              rotate_left
              ·intro wq hSw
               have qb := fun i => (hSw.cell (p := ⟨w.heap.size, i, none⟩) pbl).trans (pb i)
               have qz := fun i => (hSw.cell (p := ⟨wr.heap.size, i, none⟩) pzl).trans (pz i)
               go_simp
               try with_reducible rfl
              try simp only [Act.put, List.getElem_toArray, List.getElem_cons_succ, List.getElem_cons_zero, List.setIfInBounds_toArray, List.set_cons_zero, List.set_cons_succ]
              refine wpAnyH_take (i := 8) (v := ?_) rfl (by kernel_rfl) (by kernel_rfl) (by kernel_rfl) (fun _ _ _ h => h) (Or.inl ⟨by rfl, ?_⟩) hHeld ?_
              rotate_left
              ·intro wq hSw
               have qb := fun i => (hSw.cell (p := ⟨w.heap.size, i, none⟩) pbl).trans (pb i)
               have qz := fun i => (hSw.cell (p := ⟨wr.heap.size, i, none⟩) pzl).trans (pz i)
               go_simp
               try with_reducible rfl
              try simp only [Act.put, List.getElem_toArray, List.getElem_cons_succ, List.getElem_cons_zero, List.setIfInBounds_toArray, List.set_cons_zero, List.set_cons_succ]
              refine wpAnyH_take (i := 9) (v := ?_) rfl (by kernel_rfl) (by kernel_rfl) (by kernel_rfl) (fun _ _ _ h => h) (Or.inl ⟨by rfl, ?_⟩) hHeld ?_
              rotate_left
              ·intro wq hSw
               have qb := fun i => (hSw.cell (p := ⟨w.heap.size, i, none⟩) pbl).trans (pb i)
               have qz := fun i => (hSw.cell (p := ⟨wr.heap.size, i, none⟩) pzl).trans (pz i)
               go_simp
               try with_reducible rfl
              try simp only [Act.put, List.getElem_toArray, List.getElem_cons_succ, List.getElem_cons_zero, List.setIfInBounds_toArray, List.set_cons_zero, List.set_cons_succ]
              refine wpAnyH_take (i := 10) (v := ?_) rfl (by kernel_rfl) (by kernel_rfl) (by kernel_rfl) (fun _ _ _ h => h) (Or.inl ⟨by rfl, ?_⟩) hHeld ?_
              rotate_left
              ·intro wq hSw
               have qb := fun i => (hSw.cell (p := ⟨w.heap.size, i, none⟩) pbl).trans (pb i)
               have qz := fun i => (hSw.cell (p := ⟨wr.heap.size, i, none⟩) pzl).trans (pz i)
               go_simp
               try with_reducible rfl
              try simp only [Act.put, List.getElem_toArray, List.getElem_cons_succ, List.getElem_cons_zero, List.setIfInBounds_toArray, List.set_cons_zero, List.set_cons_succ]
              refine wpAnyH_take (i := 11) (v := ?_) rfl (by kernel_rfl) (by kernel_rfl) (by kernel_rfl) (fun _ _ _ h => h) (Or.inl ⟨by rfl, ?_⟩) hHeld ?_
              rotate_left
              ·intro wq hSw
               have qb := fun i => (hSw.cell (p := ⟨w.heap.size, i, none⟩) pbl).trans (pb i)
               have qz := fun i => (hSw.cell (p := ⟨wr.heap.size, i, none⟩) pzl).trans (pz i)
               go_simp
               try with_reducible rfl
              try simp only [Act.put, List.getElem_toArray, List.getElem_cons_succ, List.getElem_cons_zero, List.setIfInBounds_toArray, List.set_cons_zero, List.set_cons_succ]
              refine wpAnyH_take (i := 12) (v := ?_) rfl (by kernel_rfl) (by kernel_rfl) (by kernel_rfl) (fun _ _ _ h => h) (Or.inl ⟨by rfl, ?_⟩) hHeld ?_
              rotate_left
              ·intro wq hSw
               have qb := fun i => (hSw.cell (p := ⟨w.heap.size, i, none⟩) pbl).trans (pb i)
               have qz := fun i => (hSw.cell (p := ⟨wr.heap.size, i, none⟩) pzl).trans (pz i)
               go_simp
               try with_reducible rfl
              try simp only [Act.put, List.getElem_toArray, List.getElem_cons_succ, List.getElem_cons_zero, List.setIfInBounds_toArray, List.set_cons_zero, List.set_cons_succ]
              refine wpAnyH_ready (rs := [13]) (by kernel_rfl) (by simp) ?_
              refine AllReadyH.cons rfl (fun K hK => ?_) AllReadyH.nil
              go_simp
              go_at_call 68
              refine (CL.out _ hHeld).mono ?_
              rintro e w8 ⟨rfl, hb8⟩
              have hS8 := hHeld.trans (hb8.mono hHeld.size)
              try go_wp2_with fail
              refine hK.out _ _ hS8 (fun hHeld2 => ?_)
              clear hK K hHeld hb8
              have hHeld := hS8
              clear hS8 hHeld2
              try simp only [Act.put, List.getElem_toArray, List.getElem_cons_succ, List.getElem_cons_zero, List.setIfInBounds_toArray, List.set_cons_zero, List.set_cons_succ]
              refine wpAnyH_take (i := 14) (v := ?_) rfl (by kernel_rfl) (by kernel_rfl) (by kernel_rfl) (fun _ _ _ h => h) (Or.inl ⟨by rfl, ?_⟩) hHeld ?_
              rotate_left
              ·intro wq hSw
               have qb := fun i => (hSw.cell (p := ⟨w.heap.size, i, none⟩) pbl).trans (pb i)
               have qz := fun i => (hSw.cell (p := ⟨wr.heap.size, i, none⟩) pzl).trans (pz i)
               go_simp
               try with_reducible rfl
              try simp only [Act.put, List.getElem_toArray, List.getElem_cons_succ, List.getElem_cons_zero, List.setIfInBounds_toArray, List.set_cons_zero, List.set_cons_succ]
              refine wpAnyH_take (i := 15) (v := ?_) rfl (by kernel_rfl) (by kernel_rfl) (by kernel_rfl) (fun _ _ _ h => h) (Or.inl ⟨by rfl, ?_⟩) hHeld ?_
              rotate_left
              ·intro wq hSw
               have qb := fun i => (hSw.cell (p := ⟨w.heap.size, i, none⟩) pbl).trans (pb i)
               have qz := fun i => (hSw.cell (p := ⟨wr.heap.size, i, none⟩) pzl).trans (pz i)
               go_simp
               try with_reducible rfl
              try simp only [Act.put, List.getElem_toArray, List.getElem_cons_succ, List.getElem_cons_zero, List.setIfInBounds_toArray, List.set_cons_zero, List.set_cons_succ]
              refine wpAnyH_done (by kernel_rfl) ?_ _
              refine NoPanic.normal ?_
              have HW8 := Lib.hid (HW4.out.trans (hHeld.mono HW4.out.size))
              have tb := fun i => (hHeld.cell (p := ⟨w.heap.size, i, none⟩) pbl).trans (pb i)
              have tz := fun i => (hHeld.cell (p := ⟨wr.heap.size, i, none⟩) pzl).trans (pz i)
              have tbl := Nat.lt_of_lt_of_le pbl hHeld.size
              have tzl := Nat.lt_of_lt_of_le pzl hHeld.size
              clear hHeld pb pz pbl pzl CZ CL hq1 hq2
              obtain ⟨v3, hv3⟩ : ∃ v, idxOfF (fun z : ZoT => sEq z.name t) zs 0 = v := ⟨_, rfl⟩
              have hq3 := idx_has (zs := zs) (nm := t)
              rw [hv3] at hq3
              obtain ⟨v4, hv4⟩ : ∃ v, idxOfF (fun z : LkT => sEq z.1 t) ls 0 = v := ⟨_, rfl⟩
              have hq4 := idx_hasL (ls := ls) (nm := t)
              rw [hv4] at hq4
              have CZ := Lib.hid (fun (V : World) (hb : Below w8.heap.size w8 V) => (show Calls Tryz.prog 66 #[.slice AZ zs.length cZ, .string t] V fun e w' => e = .returned (.int .i64 v3) ∧ Below V.heap.size V w' from by have := r_zoneAt AZ cZ zs zs.length t V rfl ((HH.out.Z.below (HW8.out.trans (hb.mono HW8.out.size))).more (Nat.le_trans HW8.out.size hb.size)) (by omega) (by unfold maxLen; omega); rw [hv3] at this; exact this))
              have CL := Lib.hid (fun (V : World) (hb : Below w8.heap.size w8 V) => (show Calls Tryz.prog 68 #[.slice (some ⟨b, o, none⟩) ls.length cL, .string t] V fun e w' => e = .returned (.int .i64 v4) ∧ Below V.heap.size V w' from by have := r_linkAt (some ⟨b, o, none⟩) cL ls ls.length t V rfl (( (HH.out.L.below (HW8.out.trans (hb.mono HW8.out.size)))).more (Nat.le_trans HW8.out.size hb.size)) (by omega) (by unfold maxLen; omega); rw [hv4] at this; exact this))
              clear hv3 hv4
              cases hz : hasZ zs t with
              | true =>
               rw [hz] at hq3
               have hzE : lkE zs ls k = 0 := by rw [HE1.out, if_neg (by rw [hz]; exact fun h => absurd h.1 (by decide))]
               have HQ2 := Lib.hid (show ∀ q, q < k + 1 → lkE zs ls q = 0 from fun q hq => if h : q < k then HQ.out q h else (by obtain rfl : q = k := (by omega); exact hzE))
               clear hzE HQ HE1
               have hnv3 : decide (v3 < 0) = false := by have := of_decide_eq_true hq3; exact decide_eq_false (by omega)
               clear hq3
               clear hz hq4
               go_wp2_with (go_at_call 66; refine ((CZ.out _ (Below.refl _ _)).mono ?_); rintro e w5 ⟨rfl, hb5⟩; have sb := fun i => (hb5.cell (p := ⟨w.heap.size, i, none⟩) tbl).trans (tb i); have sz := fun i => (hb5.cell (p := ⟨wr.heap.size, i, none⟩) tzl).trans (tz i))
               exact ⟨⟨k + 1, by omega, by go_num, HQ2, sb, Nat.lt_of_lt_of_le tbl hb5.size, HW8.out.trans (hb5.mono HW8.out.size)⟩, by simp [intOf]; omega⟩
              | false =>
               rw [hz] at hq3
               have hnv3 : decide (v3 < 0) = true := by have := of_decide_eq_false hq3; exact decide_eq_true (by omega)
               clear hq3
               cases hl : hasL ls t with
               | true =>
                rw [hl] at hq4
                have hzE : lkE zs ls k = 0 := by rw [HE1.out, if_neg (by rw [hl]; exact fun h => absurd h.2 (by decide))]
                have HQ2 := Lib.hid (show ∀ q, q < k + 1 → lkE zs ls q = 0 from fun q hq => if h : q < k then HQ.out q h else (by obtain rfl : q = k := (by omega); exact hzE))
                clear hzE HQ HE1
                have hnv4 : decide (v4 < 0) = false := by have := of_decide_eq_true hq4; exact decide_eq_false (by omega)
                clear hq4
                clear hz hl
                go_wp2_with (first | (go_at_call 66; refine ((CZ.out _ (Below.refl _ _)).mono ?_); rintro e w5 ⟨rfl, hb5⟩; have sb := fun i => (hb5.cell (p := ⟨w.heap.size, i, none⟩) tbl).trans (tb i); have sz := fun i => (hb5.cell (p := ⟨wr.heap.size, i, none⟩) tzl).trans (tz i)) | (go_at_call 68; refine ((CL.out _ hb5).mono ?_); rintro e w6 ⟨rfl, hb6⟩))
                exact ⟨⟨k + 1, by omega, by go_num, HQ2, fun i => (hb6.cell (p := ⟨w.heap.size, i, none⟩) (Nat.lt_of_lt_of_le tbl hb5.size)).trans (sb i), Nat.lt_of_lt_of_le (Nat.lt_of_lt_of_le tbl hb5.size) hb6.size, HW8.out.trans ((hb5.trans (hb6.mono hb5.size)).mono HW8.out.size)⟩, by simp [intOf]; omega⟩
               | false =>
                rw [hl] at hq4
                have hnv4 : decide (v4 < 0) = true := by have := of_decide_eq_false hq4; exact decide_eq_true (by omega)
                clear hq4
                have hzE : lkE zs ls k = 6 := by rw [HE1.out, if_pos ⟨hz, hl⟩]
                have HE := Lib.hid (bookE_lk HS.out HR0.out HZ0.out ((firE_at HQ.out (by rw [hzE]; decide) hlt).trans hzE))
                clear hzE HQ HE1
                clear hz hl
                go_wp2_with (first | (go_at_call 66; refine ((CZ.out _ (Below.refl _ _)).mono ?_); rintro e w5 ⟨rfl, hb5⟩; have sb := fun i => (hb5.cell (p := ⟨w.heap.size, i, none⟩) tbl).trans (tb i); have sz := fun i => (hb5.cell (p := ⟨wr.heap.size, i, none⟩) tzl).trans (tz i)) | (go_at_call 68; refine ((CL.out _ hb5).mono ?_); rintro e w6 ⟨rfl, hb6⟩))
                go_ret
                exact ⟨ret_int HE.out.symm, HW8.out.trans ((hb5.trans (hb6.mono hb5.size)).mono HW8.out.size)⟩
         ·obtain rfl : k = ls.length := by omega
          have HE := Lib.hid (bookE_lk HS.out HR0.out HZ0.out (firE_zero HQ.out))
          clear HQ hT
          go_wp2_with fail
          go_ret
          exact ⟨ret_int HE.out.symm, HT.out.2.2⟩
end Go.Proofs.YthppifcggmdmoaaGreatDoor

