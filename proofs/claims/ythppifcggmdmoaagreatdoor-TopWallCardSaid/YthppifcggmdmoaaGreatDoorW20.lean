/- Part 20 of the proof of TopWall: no condition; what its declarations say stands at each. -/
import Derived.Test.YthppifcggmdmoaaGreatDoorW13
import Derived.Test.YthppifcggmdmoaaGreatDoorW15
import Derived.Test.YthppifcggmdmoaaGreatDoorW18
import Derived.Deep.Cut
import Derived.Test.YthppifcggmdmoaaGreatDoorW19
import Derived.Test.YthppifcggmdmoaaGreatDoorW02
import Derived.Deep.RegionHeld3
import Derived.Deep.DrawnRows
namespace Go.Proofs.YthppifcggmdmoaaGreatDoor
open Go.RowKit
set_option linter.unusedVariables false
attribute [local go_sem ↓] Go.wp_at_zero Go.wp_at_succ
theorem mt_list : eMT.toList = [] := by rw [ByteArray.toList_eq]; rfl
theorem mt_eq (s : ByteArray) : (s.toList == []) = sEq s eMT := by rw [sEq, mt_list]
theorem mt_ne (s : ByteArray) : (s.toList != []) = !sEq s eMT := by rw [bne, mt_eq]
theorem mt_em (s : ByteArray) : s.toList.isEmpty = sEq s eMT := by rw [← mt_eq]; cases s.toList <;> rfl
abbrev erA (x : ErT) : Array Value := #[.int .i64 x.off, .string x.rules, .int .i64 x.save, .string x.format, .int .i64 x.until_]
abbrev ruA (r : RuT) : Array Value := #[.string r.name, .int .i64 r.f, .int .i64 r.t, .int .i64 r.m, .int .i64 r.k, .int .i64 r.wd, .int .i64 r.n, .int .i64 r.a, .int .i64 r.b, .int .i64 r.sv, .string r.letter]
theorem dash_sz : (⟨#[45]⟩ : ByteArray).size ≤ maxLen := by unfold maxLen; decide
set_option maxRecDepth 100000 in
set_option maxHeartbeats 2000000 in
theorem c_abbrs' (g : Nat) (AR : Option Addr) (cR : Nat) (rs : List RuT) (x : ErT) (w : World) (hcl : g < w.heap.size) (hc0 : w.cell? ⟨g, 0, none⟩ = some (.slice AR rs.length cR)) (hRR : SlAt w w.heap.size 11 AR (rs.map ruC)) (hRO : ∀ r ∈ rs, ruOk r) (h1 : rs.length ≤ cR) (h2 : cR ≤ maxLen) :
  Calls Tryz.prog 154 #[.pointer (some ⟨g, 0, none⟩), .agg (erA x)] w fun e w' => e = .returned (.int .i64 (absE rs x)) ∧ Below w.heap.size w w' := by
 have hb0 : Below w.heap.size w (w.alloc (.cells (erA x) 80)) := (by repeat (first | exact Below.refl _ _ | assumption | apply Below.drew | apply below_drewN | (refine Below.alloc ?_ (by simp; try omega) _) | (refine Below.setCell ?_ (by simp; try omega) _)))
 have hm := mt_eq x.rules
 have hm2 := mt_em x.rules
 cases hE : sEq x.rules eMT with
 | true =>
  rw [hE] at hm hm2
  have HA := Lib.hid (show absE rs x = abE x.format x.save dASH by rw [absE, if_pos hE])
  clear hE
  go_enter Tryz.func154, Tryz.ntmps154
  go_wp2_with fail
  refine (b_Abbr x.format ⟨#[45]⟩ x.save dash_sz _).mono ?_
  rintro e w1 ⟨rfl, hb⟩
  go_wp2_with fail
  go_ret
  exact ⟨ret_int HA.out.symm, hb0.trans (hb.mono hb0.size)⟩
 | false =>
  rw [hE] at hm hm2
  have HA := Lib.hid (show absE rs x = if firE (fun j => arE x rs[j]!) rs.length = 0 then abE x.format 0 dASH else firE (fun j => arE x rs[j]!) rs.length by rw [absE, if_neg (by rw [hE]; exact Bool.false_ne_true)])
  have hcc := (hb0.cell (p := ⟨g, 0, none⟩) hcl).trans hc0
  have hR := Lib.hid hRR
  have hRo := Lib.hid hRO
  have X1 := Lib.hid (TK.box w (erA x) 80)
  unfold maxLen at h2
  clear hE hRR hRO
  go_enter Tryz.func154, Tryz.ntmps154
  go_wp2_with fail
  clear hcc
  go_loopw [31] (fun i wr => ∃ k : Nat, k ≤ rs.length ∧ i = .int .i64 k ∧ Hid (∀ j, j < k → arE x rs[j]! = 0) ∧ TK w wr (erA x)) (fun i _ => rs.length - (intOf i).toNat)
  case atStart => exact ⟨0, Nat.zero_le _, rfl, Lib.hid (fun j h => absurd h (by omega)), X1.out⟩
  case round =>
   obtain ⟨k, hk, rfl, HN, hT⟩ := hrel
   have HT := Lib.hid hT
   clear X1
   by_cases hlt : k < rs.length
   ·obtain ⟨b, o, rfl, hb, c0, c1, c2, c3, c4, c5, c6, c7, c8, c9, c10⟩ := ru_at (hR.out.below hT.2.2) hlt
    have hz := hT.2.1
    have hcs := hT.1
    have hb' : b < wr.heap.size := by omega
    have hi1 : (0 : Int) ≤ (k : Int) := by omega
    have hi2 : (k : Int) < (rs.length : Int) := by omega
    have hro := (hRo.out _ (List.getElem_mem hlt)).2.1
    have HV := Lib.hid (show arE x rs[k]! = arE x rs[k] by rw [get_bang hlt])
    obtain ⟨r, hr⟩ : ∃ r, rs[k] = r := ⟨_, rfl⟩
    rw [hr] at c0 c1 c2 c3 c4 c5 c6 c7 c8 c9 c10 hro HV
    have hbA : Below wr.heap.size wr (wr.alloc (.cells (ruA r) 70)) := (by repeat (first | exact Below.refl _ _ | assumption | apply Below.drew | apply below_drewN | (refine Below.alloc ?_ (by simp; try omega) _) | (refine Below.setCell ?_ (by simp; try omega) _)))
    have hq : (r.name.toList == x.rules.toList) = sEq r.name x.rules := rfl
    clear hr hT
    cases hs : sEq r.name x.rules with
    | false =>
     rw [hs] at hq
     have HN2 := Lib.hid (show ∀ j, j < k + 1 → arE x rs[j]! = 0 from fun j hj => if h : j < k then HN.out j h else (by obtain rfl : j = k := (by omega); rw [HV.out, arE, if_neg (by rw [hs]; exact Bool.false_ne_true)]))
     clear hs HV HN
     go_wp2_with fail
     exact ⟨⟨k + 1, by omega, by go_num, HN2, HT.out.alloc _⟩, by simp [intOf]; omega⟩
    | true =>
     rw [hs] at hq
     have HV2 := Lib.hid (show arE x rs[k]! = abE x.format r.sv r.letter by rw [HV.out, arE, if_pos hs])
     clear hs HV
     obtain ⟨n, hn⟩ : ∃ n, abE x.format r.sv r.letter = n := ⟨_, rfl⟩
     have HB := Lib.hid (b_Abbr x.format r.letter r.sv hro (wr.alloc (.cells (ruA r) 70)))
     rw [hn] at HV2 HB
     clear hn
     by_cases h0 : n = 0
     ·have hn0 : (n != 0) = false := by rw [h0]; rfl
      have HN2 := Lib.hid (show ∀ j, j < k + 1 → arE x rs[j]! = 0 from fun j hj => if h : j < k then HN.out j h else (by obtain rfl : j = k := (by omega); rw [HV2.out, h0]))
      clear HN h0
      go_wp2_with fail
      refine HB.out.mono ?_
      rintro e w1 ⟨rfl, hb1⟩
      go_wp2_with fail
      exact ⟨⟨k + 1, by omega, by go_num, HN2, (HT.out.alloc _).step hb1⟩, by simp [intOf]; omega⟩
     ·have hn0 : (n != 0) = true := by rw [bne_iff_ne]; exact h0
      have HF := Lib.hid (firE_at (f := fun j => arE x rs[j]!) (k := k) HN.out (by show arE x rs[k]! ≠ 0; rw [HV2.out]; exact h0) hlt)
      have HA2 := Lib.hid (show absE rs x = n by rw [HA.out, HF.out]; show (if arE x rs[k]! = 0 then _ else arE x rs[k]!) = n; rw [HV2.out, if_neg h0])
      clear h0 HN HF
      go_wp2_with fail
      refine HB.out.mono ?_
      rintro e w1 ⟨rfl, hb1⟩
      go_wp2_with fail
      go_ret
      exact ⟨ret_int HA2.out.symm, ((HT.out.alloc _).step hb1).2.2⟩
   ·obtain rfl : k = rs.length := by omega
    have HF := Lib.hid (firE_zero (f := fun j => arE x rs[j]!) HN.out)
    have HA2 := Lib.hid (show absE rs x = abE x.format 0 dASH by rw [HA.out, if_pos HF.out])
    have hcs := hT.1
    have hz := hT.2.1
    clear hT HN HF
    go_wp2_with fail
    refine (b_Abbr x.format ⟨#[45]⟩ 0 dash_sz _).mono ?_
    rintro e w1 ⟨rfl, hb1⟩
    go_wp2_with fail
    go_ret
    exact ⟨ret_int HA2.out.symm, (HT.out.step hb1).2.2⟩
end Go.Proofs.YthppifcggmdmoaaGreatDoor
namespace Go.Proofs.YthppifcggmdmoaaGreatDoor
open Go.RowKit
set_option linter.unusedVariables false
attribute [local go_sem ↓] Go.wp_at_zero Go.wp_at_succ
def EraIn (w : World) : Prop := ∀ y : Nat, y < 10000 → ItoaIn w y
theorem EraIn.on {w w' : World} (h : EraIn w) (hb : Below w.heap.size w w') : EraIn w' := fun y hy => (h y hy).on hb
set_option maxRecDepth 100000 in
set_option maxHeartbeats 4000000 in
theorem c_era' (g : Nat) (AR A : Option Addr) (cR cap : Nat) (rs : List RuT) (nm : ByteArray) (l : List ErT) (k : Nat) (w : World) (hcl : g < w.heap.size) (hc0 : w.cell? ⟨g, 0, none⟩ = some (.slice AR rs.length cR)) (hRR : SlAt w w.heap.size 11 AR (rs.map ruC)) (hRO : ∀ r ∈ rs, ruOk r) (h1 : rs.length ≤ cR) (h2 : cR ≤ maxLen)
  (hA : SlAt w w.heap.size 5 A (l.map erC)) (hl : ∀ x ∈ l, erOk x) (g1 : l.length ≤ cap) (g2 : cap ≤ maxLen) (hk : k < l.length) (HI : EraIn w) :
  Calls Tryz.prog 105 #[.pointer (some ⟨g, 0, none⟩), .agg #[.string nm, .slice A l.length cap], .int .i64 (k : Int)] w fun e w' => e = .returned (.int .i64 (erE rs l k)) ∧ Below w.heap.size w w' := by
 unfold maxLen at g2
 have hb0 : Below w.heap.size w (w.alloc (.cells #[.string nm, .slice A l.length cap] 75)) := (by repeat (first | exact Below.refl _ _ | assumption | apply Below.drew | apply below_drewN | (refine Below.alloc ?_ (by simp; try omega) _) | (refine Below.setCell ?_ (by simp; try omega) _)))
 obtain ⟨b, o, rfl, hb, c0, c1, c2, c3, c4⟩ := er_at (hA.below hb0) hk
 have X1 := Bx.new w #[.string nm, .slice (some ⟨b, o, none⟩) l.length cap] 75
 have hcs := X1.1
 have hi1 : (0 : Int) ≤ (k : Int) := by omega
 have hi2 : (k : Int) < (l.length : Int) := by omega
 have hxo := hl _ (List.getElem_mem hk)
 have HX := Lib.hid (show l[k]! = l[k] from get_bang hk)
 obtain ⟨x, hx⟩ : ∃ x, l[k] = x := ⟨_, rfl⟩
 rw [hx] at c0 c1 c2 c3 c4 hxo HX
 have HA := Lib.hid hA
 have hbz : b < w.heap.size + 1 := by omega
 clear hx hA
 obtain ⟨last, hlast⟩ : ∃ q, ((k : Int) == (l.length : Int) - 1) = q := ⟨_, rfl⟩
 have HLA := Lib.hid hlast
 have hw1 : IntKind.i64.wrap ((l.length : Int) - 1) = (l.length : Int) - 1 := IntWalk.i64_in _ (by omega)
 go_enter Tryz.func105, Tryz.ntmps105
 go_upto_region 1 with fail
 have hz0 : (w.alloc (.cells #[.string nm, .slice (some ⟨b, o, none⟩) l.length cap] 75)).heap.size = w.heap.size + 1 := by simp
 revert hb0 X1 hcs c0 c1 c2 c3 c4 hz0
 generalize w.alloc (.cells #[.string nm, .slice (some ⟨b, o, none⟩) l.length cap] 75) = W0
 intro hb0 X1 hcs c4 c3 c2 c1 c0 hz0
 have hS : (∀ i, W0.drew.cell? ⟨w.heap.size, i, none⟩ = (#[.string nm, .slice (some ⟨b, o, none⟩) l.length cap] : Array Value)[i]?) ∧ (W0.drew.cell? ⟨b, o + k * 5, none⟩ = some (.int .i64 x.off) ∧ W0.drew.cell? ⟨b, o + k * 5 + 1, none⟩ = some (.string x.rules) ∧ W0.drew.cell? ⟨b, o + k * 5 + 2, none⟩ = some (.int .i64 x.save) ∧ W0.drew.cell? ⟨b, o + k * 5 + 3, none⟩ = some (.string x.format) ∧ W0.drew.cell? ⟨b, o + k * 5 + 4, none⟩ = some (.int .i64 x.until_)) := ⟨hcs, c0, c1, c2, c3, c4⟩
 have HKS := Lib.hid (fun (W' : World) (hb : Below W0.heap.size W0 W') => (show (∀ i, W'.cell? ⟨w.heap.size, i, none⟩ = (#[.string nm, .slice (some ⟨b, o, none⟩) l.length cap] : Array Value)[i]?) ∧ (W'.cell? ⟨b, o + k * 5, none⟩ = some (.int .i64 x.off) ∧ W'.cell? ⟨b, o + k * 5 + 1, none⟩ = some (.string x.rules) ∧ W'.cell? ⟨b, o + k * 5 + 2, none⟩ = some (.int .i64 x.save) ∧ W'.cell? ⟨b, o + k * 5 + 3, none⟩ = some (.string x.format) ∧ W'.cell? ⟨b, o + k * 5 + 4, none⟩ = some (.int .i64 x.until_)) from
  ⟨fun i => (hb.cell (p := ⟨w.heap.size, i, none⟩) (by show w.heap.size < W0.heap.size; omega)).trans (hcs i), (hb.cell (by show b < W0.heap.size; omega)).trans c0, (hb.cell (by show b < W0.heap.size; omega)).trans c1, (hb.cell (by show b < W0.heap.size; omega)).trans c2, (hb.cell (by show b < W0.heap.size; omega)).trans c3, (hb.cell (by show b < W0.heap.size; omega)).trans c4⟩))
 clear hcs c0 c1 c2 c3 c4
 go_region_held3 (fun W' => (∀ i, W'.cell? ⟨w.heap.size, i, none⟩ = (#[.string nm, .slice (some ⟨b, o, none⟩) l.length cap] : Array Value)[i]?) ∧ (W'.cell? ⟨b, o + k * 5, none⟩ = some (.int .i64 x.off) ∧ W'.cell? ⟨b, o + k * 5 + 1, none⟩ = some (.string x.rules) ∧ W'.cell? ⟨b, o + k * 5 + 2, none⟩ = some (.int .i64 x.save) ∧ W'.cell? ⟨b, o + k * 5 + 3, none⟩ = some (.string x.format) ∧ W'.cell? ⟨b, o + k * 5 + 4, none⟩ = some (.int .i64 x.until_)))
  (first | (with_reducible exact hS) | (with_reducible assumption) | (exact HKS.out _ (by repeat (first | exact Below.refl _ _ | assumption | apply Below.drew | apply below_drewN | (refine Below.alloc ?_ (by simp; try omega) _) | (refine Below.setCell ?_ (by simp; try omega) _)))))
  (fail)
 rename_i hHeld
 clear hHeld
 have kz : ∀ i, (W0.alloc (.cells (erA x) 80)).drew.cell? ⟨w.heap.size, i, none⟩ = (#[.string nm, .slice (some ⟨b, o, none⟩) l.length cap] : Array Value)[i]? := (HKS.out _ (by repeat (first | exact Below.refl _ _ | assumption | apply Below.drew | apply below_drewN | (refine Below.alloc ?_ (by simp; try omega) _) | (refine Below.setCell ?_ (by simp; try omega) _)))).1
 have kx : ∀ i, (W0.alloc (.cells (erA x) 80)).drew.cell? ⟨w.heap.size + 1, i, none⟩ = (erA x : Array Value)[i]? := (Blk.new' W0 (erA x) 80 hz0.symm).drew.cell
 have kxl : w.heap.size + 1 < (W0.alloc (.cells (erA x) 80)).drew.heap.size := (Blk.new' W0 (erA x) 80 hz0.symm).drew.lt
 have HB1 := Lib.hid (show Below w.heap.size w (W0.alloc (.cells (erA x) 80)).drew from (hb0.alloc (by omega) _).drew)
 have HRR := Lib.hid hRR
 have HRO := Lib.hid hRO
 revert kz kx kxl HB1
 generalize (W0.alloc (.cells (erA x) 80)).drew = W1
 intro kz kx kxl HB1
 clear HKS hS X1 hb0 hz0 hRR hRO hlast hl
 by_cases ho : (-64800 ≤ x.off ∧ x.off ≤ 64800) ∧ (0 ≤ x.save ∧ x.save ≤ 10800)
 ·have d1 : decide (-64800 ≤ x.off ∧ x.off ≤ 64800) = true := decide_eq_true ho.1
  have d2 : decide (0 ≤ x.save ∧ x.save ≤ 10800) = true := decide_eq_true ho.2
  cases hE : sEq x.rules eMT with
  | true =>
   have hm : (x.rules.toList == []) = true := by rw [mt_eq, hE]
   have HE0 := Lib.hid (show erE1 rs x = absE rs x by rw [erE1, if_neg (not_not_intro ho), if_neg (by rw [hE]; exact fun h => absurd h.2 (by decide)), if_neg (by rw [hE]; exact fun h => absurd h.1 (by decide))])
   clear ho hE
   obtain ⟨q, hq⟩ : ∃ q, (x.save != 0) = q := ⟨_, rfl⟩
   cases q
   all_goals go_upto_region 8 with ((go_at_call 32; refine (b_within _ _ _ _).mono ?_; rintro e w' ⟨rfl, rfl⟩))
   all_goals try clear d1 d2
   all_goals
    by_cases a0 : absE rs x = 0
    ·have HAB := Lib.hid (show Calls Tryz.prog 154 #[.pointer (some ⟨g, 0, none⟩), .agg (erA x)] W1 fun e w' => e = .returned (.int .i64 0) ∧ Below W1.heap.size W1 w' from by have := c_abbrs' g AR cR rs x W1 (Nat.lt_of_lt_of_le hcl HB1.out.size) ((HB1.out.cell hcl).trans hc0) ((HRR.out.below HB1.out).more HB1.out.size) HRO.out h1 h2; rw [a0] at this; exact this)
     have HE1 := Lib.hid (show erE1 rs x = 0 by rw [HE0.out]; exact a0)
     clear a0
     cases last with
     | true =>
      have HK := Lib.hid (show k + 1 = l.length by have := beq_iff_eq.1 HLA.out; omega)
      by_cases u0 : x.until_ = 0
      ·have hu : (x.until_ != 0) = false := by rw [u0]; rfl
       have HE := Lib.hid (show erE rs l k = 0 by rw [erE, HX.out, if_pos HE1.out, erE2, if_pos HK.out, HX.out, if_pos u0])
       clear u0
       go_wp2_with fail
       refine HAB.out.mono ?_
       rintro e w5 ⟨rfl, hb5⟩
       have kx5 := fun i => (hb5.cell (p := ⟨w.heap.size + 1, i, none⟩) kxl).trans (kx i)
       have kl5 := Nat.lt_of_lt_of_le kxl hb5.size
       go_wp2_with fail
       go_ret
       exact ⟨ret_int HE.out.symm, HB1.out.trans (hb5.mono HB1.out.size)⟩
      ·have hu : (x.until_ != 0) = true := by rw [bne_iff_ne]; exact u0
       have HE := Lib.hid (show erE rs l k = 5 by rw [erE, HX.out, if_pos HE1.out, erE2, if_pos HK.out, HX.out, if_neg u0])
       clear u0
       go_wp2_with fail
       refine HAB.out.mono ?_
       rintro e w5 ⟨rfl, hb5⟩
       have kx5 := fun i => (hb5.cell (p := ⟨w.heap.size + 1, i, none⟩) kxl).trans (kx i)
       have kl5 := Nat.lt_of_lt_of_le kxl hb5.size
       go_wp2_with fail
       go_ret
       exact ⟨ret_int HE.out.symm, HB1.out.trans (hb5.mono HB1.out.size)⟩
     | false =>
      have HK := Lib.hid (show ¬ k + 1 = l.length by have := beq_eq_false_iff_ne.1 HLA.out; omega)
      by_cases u1 : -1099511627776 ≤ x.until_ ∧ x.until_ ≤ 1099511627776
      ·have hd : decide (-1099511627776 ≤ x.until_ ∧ x.until_ ≤ 1099511627776) = true := decide_eq_true u1
       by_cases t0 : stE x.until_ = 0
       ·by_cases p0 : 0 < k ∧ x.until_ ≤ l[k - 1]!.until_
        ·have p1 := p0.1
         have hj : k - 1 < l.length := by omega
         have HP := Lib.hid (show x.until_ ≤ l[k - 1].until_ by have := p0.2; rwa [get_bang hj] at this)
         have HE := Lib.hid (show erE rs l k = 5 by rw [erE, HX.out, if_pos HE1.out, erE2, if_neg HK.out, HX.out, if_neg (not_not_intro u1), if_neg (by rw [t0]; exact fun h => h rfl), if_pos p0])
         have HST := Lib.hid (fun (W : World) (hb : Below w.heap.size w W) => (show Calls Tryz.prog 44 #[.int .i64 x.until_] W fun e w' => e = .returned (.tuple #[.string (stV x.until_), .int .i64 0]) ∧ Below W.heap.size W w' from by have := k_Stamp x.until_ hxo.2.2.2.2.1 hxo.2.2.2.2.2 W (HI.on hb); rw [t0] at this; exact this))
         clear u1 t0
         go_wp2_with ((go_at_call 32; refine (b_within _ _ _ _).mono ?_; rintro e w' ⟨rfl, rfl⟩))
         refine HAB.out.mono ?_
         rintro e w5 ⟨rfl, hb5⟩
         have kx5 := fun i => (hb5.cell (p := ⟨w.heap.size + 1, i, none⟩) kxl).trans (kx i)
         have kl5 := Nat.lt_of_lt_of_le kxl hb5.size
         have HB5 := Lib.hid (HB1.out.trans (hb5.mono HB1.out.size))
         have kz5 := fun i => (hb5.cell (p := ⟨w.heap.size, i, none⟩) (Nat.lt_of_succ_lt kxl)).trans (kz i)
         clear hb5 kx kz
         go_wp2_with ((go_at_call 32; refine (b_within _ _ _ _).mono ?_; rintro e w' ⟨rfl, rfl⟩))
         refine (HST.out _ HB5.out).mono ?_
         rintro e w6 ⟨rfl, hb6⟩
         have kx6 := fun i => (hb6.cell (p := ⟨w.heap.size + 1, i, none⟩) kl5).trans (kx5 i)
         have kl6 := Nat.lt_of_lt_of_le kl5 hb6.size
         have kz6 := fun i => (hb6.cell (p := ⟨w.heap.size, i, none⟩) (Nat.lt_of_succ_lt kl5)).trans (kz5 i)
         have HB6 := Lib.hid (HB5.out.trans (hb6.mono HB5.out.size))
         clear kx5 kz5 hb6
         clear p0
         obtain ⟨b', o', he, hb', _, _, _, _, d4⟩ := er_at (HA.out.below HB6.out) hj
         simp at he
         obtain ⟨rfl, rfl⟩ := he
         have hk0 : (0 : Int) < (k : Int) := by omega
         have hk1 : IntKind.i64.wrap ((k : Int) - 1) = (k : Int) - 1 := IntWalk.i64_in _ (by omega)
         have hk2 : (0 : Int) ≤ (k : Int) - 1 := by omega
         have hk3 : (k : Int) - 1 < (l.length : Int) := by omega
         have hk4 : ((k : Int) - 1).toNat = k - 1 := by omega
         obtain ⟨u, hu⟩ : ∃ u, l[k - 1].until_ = u := ⟨_, rfl⟩
         rw [hu] at d4 HP
         have hP := HP.out
         clear hu HP
         go_wp2_with ((go_at_call 32; refine (b_within _ _ _ _).mono ?_; rintro e w' ⟨rfl, rfl⟩))
         go_quiet (fail)
         go_wp2_with fail
         go_ret
         exact ⟨ret_int HE.out.symm, below_drewN HB6.out _⟩
        ·by_cases p1 : 0 < k
         ·have hj : k - 1 < l.length := by omega
          have HP := Lib.hid (show l[k - 1].until_ < x.until_ by have h : ¬ x.until_ ≤ l[k - 1]!.until_ := fun h => p0 ⟨p1, h⟩; rw [get_bang hj] at h; omega)
          have HE := Lib.hid (show erE rs l k = 0 by rw [erE, HX.out, if_pos HE1.out, erE2, if_neg HK.out, HX.out, if_neg (not_not_intro u1), if_neg (by rw [t0]; exact fun h => h rfl), if_neg p0])
          have HST := Lib.hid (fun (W : World) (hb : Below w.heap.size w W) => (show Calls Tryz.prog 44 #[.int .i64 x.until_] W fun e w' => e = .returned (.tuple #[.string (stV x.until_), .int .i64 0]) ∧ Below W.heap.size W w' from by have := k_Stamp x.until_ hxo.2.2.2.2.1 hxo.2.2.2.2.2 W (HI.on hb); rw [t0] at this; exact this))
          clear u1 t0
          go_wp2_with ((go_at_call 32; refine (b_within _ _ _ _).mono ?_; rintro e w' ⟨rfl, rfl⟩))
          refine HAB.out.mono ?_
          rintro e w5 ⟨rfl, hb5⟩
          have kx5 := fun i => (hb5.cell (p := ⟨w.heap.size + 1, i, none⟩) kxl).trans (kx i)
          have kl5 := Nat.lt_of_lt_of_le kxl hb5.size
          have HB5 := Lib.hid (HB1.out.trans (hb5.mono HB1.out.size))
          have kz5 := fun i => (hb5.cell (p := ⟨w.heap.size, i, none⟩) (Nat.lt_of_succ_lt kxl)).trans (kz i)
          clear hb5 kx kz
          go_wp2_with ((go_at_call 32; refine (b_within _ _ _ _).mono ?_; rintro e w' ⟨rfl, rfl⟩))
          refine (HST.out _ HB5.out).mono ?_
          rintro e w6 ⟨rfl, hb6⟩
          have kx6 := fun i => (hb6.cell (p := ⟨w.heap.size + 1, i, none⟩) kl5).trans (kx5 i)
          have kl6 := Nat.lt_of_lt_of_le kl5 hb6.size
          have kz6 := fun i => (hb6.cell (p := ⟨w.heap.size, i, none⟩) (Nat.lt_of_succ_lt kl5)).trans (kz5 i)
          have HB6 := Lib.hid (HB5.out.trans (hb6.mono HB5.out.size))
          clear kx5 kz5 hb6
          clear p0
          obtain ⟨b', o', he, hb', _, _, _, _, d4⟩ := er_at (HA.out.below HB6.out) hj
          simp at he
          obtain ⟨rfl, rfl⟩ := he
          have hk0 : (0 : Int) < (k : Int) := by omega
          have hk1 : IntKind.i64.wrap ((k : Int) - 1) = (k : Int) - 1 := IntWalk.i64_in _ (by omega)
          have hk2 : (0 : Int) ≤ (k : Int) - 1 := by omega
          have hk3 : (k : Int) - 1 < (l.length : Int) := by omega
          have hk4 : ((k : Int) - 1).toNat = k - 1 := by omega
          obtain ⟨u, hu⟩ : ∃ u, l[k - 1].until_ = u := ⟨_, rfl⟩
          rw [hu] at d4 HP
          have hP := HP.out
          clear hu HP
          go_wp2_with ((go_at_call 32; refine (b_within _ _ _ _).mono ?_; rintro e w' ⟨rfl, rfl⟩))
          go_quiet (fail)
          go_wp2_with fail
          go_ret
          exact ⟨ret_int HE.out.symm, below_drewN HB6.out _⟩
         ·have hkk : ¬ (0 : Int) < (k : Int) := by omega
          have HE := Lib.hid (show erE rs l k = 0 by rw [erE, HX.out, if_pos HE1.out, erE2, if_neg HK.out, HX.out, if_neg (not_not_intro u1), if_neg (by rw [t0]; exact fun h => h rfl), if_neg p0])
          have HST := Lib.hid (fun (W : World) (hb : Below w.heap.size w W) => (show Calls Tryz.prog 44 #[.int .i64 x.until_] W fun e w' => e = .returned (.tuple #[.string (stV x.until_), .int .i64 0]) ∧ Below W.heap.size W w' from by have := k_Stamp x.until_ hxo.2.2.2.2.1 hxo.2.2.2.2.2 W (HI.on hb); rw [t0] at this; exact this))
          clear u1 t0
          go_wp2_with ((go_at_call 32; refine (b_within _ _ _ _).mono ?_; rintro e w' ⟨rfl, rfl⟩))
          refine HAB.out.mono ?_
          rintro e w5 ⟨rfl, hb5⟩
          have kx5 := fun i => (hb5.cell (p := ⟨w.heap.size + 1, i, none⟩) kxl).trans (kx i)
          have kl5 := Nat.lt_of_lt_of_le kxl hb5.size
          have HB5 := Lib.hid (HB1.out.trans (hb5.mono HB1.out.size))
          have kz5 := fun i => (hb5.cell (p := ⟨w.heap.size, i, none⟩) (Nat.lt_of_succ_lt kxl)).trans (kz i)
          clear hb5 kx kz
          go_wp2_with ((go_at_call 32; refine (b_within _ _ _ _).mono ?_; rintro e w' ⟨rfl, rfl⟩))
          refine (HST.out _ HB5.out).mono ?_
          rintro e w6 ⟨rfl, hb6⟩
          have kx6 := fun i => (hb6.cell (p := ⟨w.heap.size + 1, i, none⟩) kl5).trans (kx5 i)
          have kl6 := Nat.lt_of_lt_of_le kl5 hb6.size
          have kz6 := fun i => (hb6.cell (p := ⟨w.heap.size, i, none⟩) (Nat.lt_of_succ_lt kl5)).trans (kz5 i)
          have HB6 := Lib.hid (HB5.out.trans (hb6.mono HB5.out.size))
          clear kx5 kz5 hb6
          clear p0
          go_wp2_with ((go_at_call 32; refine (b_within _ _ _ _).mono ?_; rintro e w' ⟨rfl, rfl⟩))
          go_quiet (fail)
          go_wp2_with fail
          go_ret
          exact ⟨ret_int HE.out.symm, below_drewN HB6.out _⟩
       ·have t1 : stE x.until_ = 1 := by unfold stE at t0 ⊢; split at t0 <;> simp_all
        have HE := Lib.hid (show erE rs l k = 1 by rw [erE, HX.out, if_pos HE1.out, erE2, if_neg HK.out, HX.out, if_neg (not_not_intro u1), if_pos t0])
        have HST := Lib.hid (fun (W : World) (hb : Below w.heap.size w W) => (show Calls Tryz.prog 44 #[.int .i64 x.until_] W fun e w' => e = .returned (.tuple #[.string (stV x.until_), .int .i64 1]) ∧ Below W.heap.size W w' from by have := k_Stamp x.until_ hxo.2.2.2.2.1 hxo.2.2.2.2.2 W (HI.on hb); rw [t1] at this; exact this))
        clear u1 t0 t1
        go_wp2_with ((go_at_call 32; refine (b_within _ _ _ _).mono ?_; rintro e w' ⟨rfl, rfl⟩))
        refine HAB.out.mono ?_
        rintro e w5 ⟨rfl, hb5⟩
        have kx5 := fun i => (hb5.cell (p := ⟨w.heap.size + 1, i, none⟩) kxl).trans (kx i)
        have kl5 := Nat.lt_of_lt_of_le kxl hb5.size
        have HB5 := Lib.hid (HB1.out.trans (hb5.mono HB1.out.size))
        clear hb5 kx kz
        go_wp2_with ((go_at_call 32; refine (b_within _ _ _ _).mono ?_; rintro e w' ⟨rfl, rfl⟩))
        refine (HST.out _ HB5.out).mono ?_
        rintro e w6 ⟨rfl, hb6⟩
        go_wp2_with fail
        go_ret
        exact ⟨ret_int HE.out.symm, HB5.out.trans (hb6.mono HB5.out.size)⟩
      ·have hd : decide (-1099511627776 ≤ x.until_ ∧ x.until_ ≤ 1099511627776) = false := decide_eq_false u1
       have HE := Lib.hid (show erE rs l k = 1 by rw [erE, HX.out, if_pos HE1.out, erE2, if_neg HK.out, HX.out, if_pos u1])
       clear u1
       go_wp2_with ((go_at_call 32; refine (b_within _ _ _ _).mono ?_; rintro e w' ⟨rfl, rfl⟩))
       refine HAB.out.mono ?_
       rintro e w5 ⟨rfl, hb5⟩
       have kx5 := fun i => (hb5.cell (p := ⟨w.heap.size + 1, i, none⟩) kxl).trans (kx i)
       have kl5 := Nat.lt_of_lt_of_le kxl hb5.size
       have HB5 := Lib.hid (HB1.out.trans (hb5.mono HB1.out.size))
       clear hb5 kx kz
       go_wp2_with ((go_at_call 32; refine (b_within _ _ _ _).mono ?_; rintro e w' ⟨rfl, rfl⟩))
       go_ret
       exact ⟨ret_int HE.out.symm, HB5.out⟩
    ·have HAB := Lib.hid (c_abbrs' g AR cR rs x W1 (Nat.lt_of_lt_of_le hcl HB1.out.size) ((HB1.out.cell hcl).trans hc0) ((HRR.out.below HB1.out).more HB1.out.size) HRO.out h1 h2)
     have HE := Lib.hid (show erE rs l k = absE rs x by rw [erE, HX.out, if_neg (by rw [HE0.out]; exact a0), HE0.out])
     obtain ⟨n, hn⟩ : ∃ n, absE rs x = n := ⟨_, rfl⟩
     rw [hn] at HAB HE a0
     have hn0 : (n != 0) = true := by rw [bne_iff_ne]; exact a0
     clear hn a0
     go_wp2_with fail
     refine HAB.out.mono ?_
     rintro e w5 ⟨rfl, hb5⟩
     go_wp2_with fail
     go_ret
     exact ⟨ret_int HE.out.symm, HB1.out.trans (hb5.mono HB1.out.size)⟩
  | false =>
   have hm : (x.rules.toList == []) = false := by rw [mt_eq, hE]
   by_cases hs : x.save = 0
   ·have hs2 : (x.save != 0) = false := by rw [hs]; rfl
    have kg := (HB1.out.cell (p := ⟨g, 0, none⟩) hcl).trans hc0
    cases hR : hasR rs x.rules with
    | true =>
     have HE0 := Lib.hid (show erE1 rs x = absE rs x by rw [erE1, if_neg (not_not_intro ho), if_neg (fun h => h.1 hs), if_neg (by rw [hR]; exact fun h => absurd h.2 (by decide))])
     have HT := Lib.hid (show Calls Tryz.prog 152 #[.slice AR rs.length cR, .func (.func 153) #[] #[.pointer (some ⟨w.heap.size + 1, 0, none⟩)]] W1 fun e w' => e = .returned (.bool true) ∧ Below W1.heap.size W1 w' from by have := t_rE AR cR rs (w.heap.size + 1) x.rules W1 ((HRR.out.below HB1.out).more HB1.out.size) h1 h2 kxl (kx 1); rw [show (rs.any fun z => sEq z.name x.rules) = true from hR] at this; exact this)
     clear ho hE hs hR
     go_wp2_with ((go_at_call 32; refine (b_within _ _ _ _).mono ?_; rintro e w' ⟨rfl, rfl⟩))
     refine HT.out.mono ?_
     rintro e W2 ⟨rfl, hb2⟩
     have kx := fun i => (hb2.cell (p := ⟨w.heap.size + 1, i, none⟩) kxl).trans (kx i)
     have kz := fun i => (hb2.cell (p := ⟨w.heap.size, i, none⟩) (Nat.lt_of_succ_lt kxl)).trans (kz i)
     have kxl := Nat.lt_of_lt_of_le kxl hb2.size
     have HB2 := Lib.hid (HB1.out.trans (hb2.mono HB1.out.size))
     clear hb2 HB1 HT d1 d2 kg
     go_upto_region 8 with fail
     by_cases a0 : absE rs x = 0
     ·have HAB := Lib.hid (show Calls Tryz.prog 154 #[.pointer (some ⟨g, 0, none⟩), .agg (erA x)] W2 fun e w' => e = .returned (.int .i64 0) ∧ Below W2.heap.size W2 w' from by have := c_abbrs' g AR cR rs x W2 (Nat.lt_of_lt_of_le hcl HB2.out.size) ((HB2.out.cell hcl).trans hc0) ((HRR.out.below HB2.out).more HB2.out.size) HRO.out h1 h2; rw [a0] at this; exact this)
      have HE1 := Lib.hid (show erE1 rs x = 0 by rw [HE0.out]; exact a0)
      clear a0
      cases last with
      | true =>
       have HK := Lib.hid (show k + 1 = l.length by have := beq_iff_eq.1 HLA.out; omega)
       by_cases u0 : x.until_ = 0
       ·have hu : (x.until_ != 0) = false := by rw [u0]; rfl
        have HE := Lib.hid (show erE rs l k = 0 by rw [erE, HX.out, if_pos HE1.out, erE2, if_pos HK.out, HX.out, if_pos u0])
        clear u0
        go_wp2_with fail
        refine HAB.out.mono ?_
        rintro e w5 ⟨rfl, hb5⟩
        have kx5 := fun i => (hb5.cell (p := ⟨w.heap.size + 1, i, none⟩) kxl).trans (kx i)
        have kl5 := Nat.lt_of_lt_of_le kxl hb5.size
        go_wp2_with fail
        go_ret
        exact ⟨ret_int HE.out.symm, HB2.out.trans (hb5.mono HB2.out.size)⟩
       ·have hu : (x.until_ != 0) = true := by rw [bne_iff_ne]; exact u0
        have HE := Lib.hid (show erE rs l k = 5 by rw [erE, HX.out, if_pos HE1.out, erE2, if_pos HK.out, HX.out, if_neg u0])
        clear u0
        go_wp2_with fail
        refine HAB.out.mono ?_
        rintro e w5 ⟨rfl, hb5⟩
        have kx5 := fun i => (hb5.cell (p := ⟨w.heap.size + 1, i, none⟩) kxl).trans (kx i)
        have kl5 := Nat.lt_of_lt_of_le kxl hb5.size
        go_wp2_with fail
        go_ret
        exact ⟨ret_int HE.out.symm, HB2.out.trans (hb5.mono HB2.out.size)⟩
      | false =>
       have HK := Lib.hid (show ¬ k + 1 = l.length by have := beq_eq_false_iff_ne.1 HLA.out; omega)
       by_cases u1 : -1099511627776 ≤ x.until_ ∧ x.until_ ≤ 1099511627776
       ·have hd : decide (-1099511627776 ≤ x.until_ ∧ x.until_ ≤ 1099511627776) = true := decide_eq_true u1
        by_cases t0 : stE x.until_ = 0
        ·by_cases p0 : 0 < k ∧ x.until_ ≤ l[k - 1]!.until_
         ·have p1 := p0.1
          have hj : k - 1 < l.length := by omega
          have HP := Lib.hid (show x.until_ ≤ l[k - 1].until_ by have := p0.2; rwa [get_bang hj] at this)
          have HE := Lib.hid (show erE rs l k = 5 by rw [erE, HX.out, if_pos HE1.out, erE2, if_neg HK.out, HX.out, if_neg (not_not_intro u1), if_neg (by rw [t0]; exact fun h => h rfl), if_pos p0])
          have HST := Lib.hid (fun (W : World) (hb : Below w.heap.size w W) => (show Calls Tryz.prog 44 #[.int .i64 x.until_] W fun e w' => e = .returned (.tuple #[.string (stV x.until_), .int .i64 0]) ∧ Below W.heap.size W w' from by have := k_Stamp x.until_ hxo.2.2.2.2.1 hxo.2.2.2.2.2 W (HI.on hb); rw [t0] at this; exact this))
          clear u1 t0
          go_wp2_with ((go_at_call 32; refine (b_within _ _ _ _).mono ?_; rintro e w' ⟨rfl, rfl⟩))
          refine HAB.out.mono ?_
          rintro e w5 ⟨rfl, hb5⟩
          have kx5 := fun i => (hb5.cell (p := ⟨w.heap.size + 1, i, none⟩) kxl).trans (kx i)
          have kl5 := Nat.lt_of_lt_of_le kxl hb5.size
          have HB5 := Lib.hid (HB2.out.trans (hb5.mono HB2.out.size))
          have kz5 := fun i => (hb5.cell (p := ⟨w.heap.size, i, none⟩) (Nat.lt_of_succ_lt kxl)).trans (kz i)
          clear hb5 kx kz
          go_wp2_with ((go_at_call 32; refine (b_within _ _ _ _).mono ?_; rintro e w' ⟨rfl, rfl⟩))
          refine (HST.out _ HB5.out).mono ?_
          rintro e w6 ⟨rfl, hb6⟩
          have kx6 := fun i => (hb6.cell (p := ⟨w.heap.size + 1, i, none⟩) kl5).trans (kx5 i)
          have kl6 := Nat.lt_of_lt_of_le kl5 hb6.size
          have kz6 := fun i => (hb6.cell (p := ⟨w.heap.size, i, none⟩) (Nat.lt_of_succ_lt kl5)).trans (kz5 i)
          have HB6 := Lib.hid (HB5.out.trans (hb6.mono HB5.out.size))
          clear kx5 kz5 hb6
          clear p0
          obtain ⟨b', o', he, hb', _, _, _, _, d4⟩ := er_at (HA.out.below HB6.out) hj
          simp at he
          obtain ⟨rfl, rfl⟩ := he
          have hk0 : (0 : Int) < (k : Int) := by omega
          have hk1 : IntKind.i64.wrap ((k : Int) - 1) = (k : Int) - 1 := IntWalk.i64_in _ (by omega)
          have hk2 : (0 : Int) ≤ (k : Int) - 1 := by omega
          have hk3 : (k : Int) - 1 < (l.length : Int) := by omega
          have hk4 : ((k : Int) - 1).toNat = k - 1 := by omega
          obtain ⟨u, hu⟩ : ∃ u, l[k - 1].until_ = u := ⟨_, rfl⟩
          rw [hu] at d4 HP
          have hP := HP.out
          clear hu HP
          go_wp2_with ((go_at_call 32; refine (b_within _ _ _ _).mono ?_; rintro e w' ⟨rfl, rfl⟩))
          go_quiet (fail)
          go_wp2_with fail
          go_ret
          exact ⟨ret_int HE.out.symm, below_drewN HB6.out _⟩
         ·by_cases p1 : 0 < k
          ·have hj : k - 1 < l.length := by omega
           have HP := Lib.hid (show l[k - 1].until_ < x.until_ by have h : ¬ x.until_ ≤ l[k - 1]!.until_ := fun h => p0 ⟨p1, h⟩; rw [get_bang hj] at h; omega)
           have HE := Lib.hid (show erE rs l k = 0 by rw [erE, HX.out, if_pos HE1.out, erE2, if_neg HK.out, HX.out, if_neg (not_not_intro u1), if_neg (by rw [t0]; exact fun h => h rfl), if_neg p0])
           have HST := Lib.hid (fun (W : World) (hb : Below w.heap.size w W) => (show Calls Tryz.prog 44 #[.int .i64 x.until_] W fun e w' => e = .returned (.tuple #[.string (stV x.until_), .int .i64 0]) ∧ Below W.heap.size W w' from by have := k_Stamp x.until_ hxo.2.2.2.2.1 hxo.2.2.2.2.2 W (HI.on hb); rw [t0] at this; exact this))
           clear u1 t0
           go_wp2_with ((go_at_call 32; refine (b_within _ _ _ _).mono ?_; rintro e w' ⟨rfl, rfl⟩))
           refine HAB.out.mono ?_
           rintro e w5 ⟨rfl, hb5⟩
           have kx5 := fun i => (hb5.cell (p := ⟨w.heap.size + 1, i, none⟩) kxl).trans (kx i)
           have kl5 := Nat.lt_of_lt_of_le kxl hb5.size
           have HB5 := Lib.hid (HB2.out.trans (hb5.mono HB2.out.size))
           have kz5 := fun i => (hb5.cell (p := ⟨w.heap.size, i, none⟩) (Nat.lt_of_succ_lt kxl)).trans (kz i)
           clear hb5 kx kz
           go_wp2_with ((go_at_call 32; refine (b_within _ _ _ _).mono ?_; rintro e w' ⟨rfl, rfl⟩))
           refine (HST.out _ HB5.out).mono ?_
           rintro e w6 ⟨rfl, hb6⟩
           have kx6 := fun i => (hb6.cell (p := ⟨w.heap.size + 1, i, none⟩) kl5).trans (kx5 i)
           have kl6 := Nat.lt_of_lt_of_le kl5 hb6.size
           have kz6 := fun i => (hb6.cell (p := ⟨w.heap.size, i, none⟩) (Nat.lt_of_succ_lt kl5)).trans (kz5 i)
           have HB6 := Lib.hid (HB5.out.trans (hb6.mono HB5.out.size))
           clear kx5 kz5 hb6
           clear p0
           obtain ⟨b', o', he, hb', _, _, _, _, d4⟩ := er_at (HA.out.below HB6.out) hj
           simp at he
           obtain ⟨rfl, rfl⟩ := he
           have hk0 : (0 : Int) < (k : Int) := by omega
           have hk1 : IntKind.i64.wrap ((k : Int) - 1) = (k : Int) - 1 := IntWalk.i64_in _ (by omega)
           have hk2 : (0 : Int) ≤ (k : Int) - 1 := by omega
           have hk3 : (k : Int) - 1 < (l.length : Int) := by omega
           have hk4 : ((k : Int) - 1).toNat = k - 1 := by omega
           obtain ⟨u, hu⟩ : ∃ u, l[k - 1].until_ = u := ⟨_, rfl⟩
           rw [hu] at d4 HP
           have hP := HP.out
           clear hu HP
           go_wp2_with ((go_at_call 32; refine (b_within _ _ _ _).mono ?_; rintro e w' ⟨rfl, rfl⟩))
           go_quiet (fail)
           go_wp2_with fail
           go_ret
           exact ⟨ret_int HE.out.symm, below_drewN HB6.out _⟩
          ·have hkk : ¬ (0 : Int) < (k : Int) := by omega
           have HE := Lib.hid (show erE rs l k = 0 by rw [erE, HX.out, if_pos HE1.out, erE2, if_neg HK.out, HX.out, if_neg (not_not_intro u1), if_neg (by rw [t0]; exact fun h => h rfl), if_neg p0])
           have HST := Lib.hid (fun (W : World) (hb : Below w.heap.size w W) => (show Calls Tryz.prog 44 #[.int .i64 x.until_] W fun e w' => e = .returned (.tuple #[.string (stV x.until_), .int .i64 0]) ∧ Below W.heap.size W w' from by have := k_Stamp x.until_ hxo.2.2.2.2.1 hxo.2.2.2.2.2 W (HI.on hb); rw [t0] at this; exact this))
           clear u1 t0
           go_wp2_with ((go_at_call 32; refine (b_within _ _ _ _).mono ?_; rintro e w' ⟨rfl, rfl⟩))
           refine HAB.out.mono ?_
           rintro e w5 ⟨rfl, hb5⟩
           have kx5 := fun i => (hb5.cell (p := ⟨w.heap.size + 1, i, none⟩) kxl).trans (kx i)
           have kl5 := Nat.lt_of_lt_of_le kxl hb5.size
           have HB5 := Lib.hid (HB2.out.trans (hb5.mono HB2.out.size))
           have kz5 := fun i => (hb5.cell (p := ⟨w.heap.size, i, none⟩) (Nat.lt_of_succ_lt kxl)).trans (kz i)
           clear hb5 kx kz
           go_wp2_with ((go_at_call 32; refine (b_within _ _ _ _).mono ?_; rintro e w' ⟨rfl, rfl⟩))
           refine (HST.out _ HB5.out).mono ?_
           rintro e w6 ⟨rfl, hb6⟩
           have kx6 := fun i => (hb6.cell (p := ⟨w.heap.size + 1, i, none⟩) kl5).trans (kx5 i)
           have kl6 := Nat.lt_of_lt_of_le kl5 hb6.size
           have kz6 := fun i => (hb6.cell (p := ⟨w.heap.size, i, none⟩) (Nat.lt_of_succ_lt kl5)).trans (kz5 i)
           have HB6 := Lib.hid (HB5.out.trans (hb6.mono HB5.out.size))
           clear kx5 kz5 hb6
           clear p0
           go_wp2_with ((go_at_call 32; refine (b_within _ _ _ _).mono ?_; rintro e w' ⟨rfl, rfl⟩))
           go_quiet (fail)
           go_wp2_with fail
           go_ret
           exact ⟨ret_int HE.out.symm, below_drewN HB6.out _⟩
        ·have t1 : stE x.until_ = 1 := by unfold stE at t0 ⊢; split at t0 <;> simp_all
         have HE := Lib.hid (show erE rs l k = 1 by rw [erE, HX.out, if_pos HE1.out, erE2, if_neg HK.out, HX.out, if_neg (not_not_intro u1), if_pos t0])
         have HST := Lib.hid (fun (W : World) (hb : Below w.heap.size w W) => (show Calls Tryz.prog 44 #[.int .i64 x.until_] W fun e w' => e = .returned (.tuple #[.string (stV x.until_), .int .i64 1]) ∧ Below W.heap.size W w' from by have := k_Stamp x.until_ hxo.2.2.2.2.1 hxo.2.2.2.2.2 W (HI.on hb); rw [t1] at this; exact this))
         clear u1 t0 t1
         go_wp2_with ((go_at_call 32; refine (b_within _ _ _ _).mono ?_; rintro e w' ⟨rfl, rfl⟩))
         refine HAB.out.mono ?_
         rintro e w5 ⟨rfl, hb5⟩
         have kx5 := fun i => (hb5.cell (p := ⟨w.heap.size + 1, i, none⟩) kxl).trans (kx i)
         have kl5 := Nat.lt_of_lt_of_le kxl hb5.size
         have HB5 := Lib.hid (HB2.out.trans (hb5.mono HB2.out.size))
         clear hb5 kx kz
         go_wp2_with ((go_at_call 32; refine (b_within _ _ _ _).mono ?_; rintro e w' ⟨rfl, rfl⟩))
         refine (HST.out _ HB5.out).mono ?_
         rintro e w6 ⟨rfl, hb6⟩
         go_wp2_with fail
         go_ret
         exact ⟨ret_int HE.out.symm, HB5.out.trans (hb6.mono HB5.out.size)⟩
       ·have hd : decide (-1099511627776 ≤ x.until_ ∧ x.until_ ≤ 1099511627776) = false := decide_eq_false u1
        have HE := Lib.hid (show erE rs l k = 1 by rw [erE, HX.out, if_pos HE1.out, erE2, if_neg HK.out, HX.out, if_pos u1])
        clear u1
        go_wp2_with ((go_at_call 32; refine (b_within _ _ _ _).mono ?_; rintro e w' ⟨rfl, rfl⟩))
        refine HAB.out.mono ?_
        rintro e w5 ⟨rfl, hb5⟩
        have kx5 := fun i => (hb5.cell (p := ⟨w.heap.size + 1, i, none⟩) kxl).trans (kx i)
        have kl5 := Nat.lt_of_lt_of_le kxl hb5.size
        have HB5 := Lib.hid (HB2.out.trans (hb5.mono HB2.out.size))
        clear hb5 kx kz
        go_wp2_with ((go_at_call 32; refine (b_within _ _ _ _).mono ?_; rintro e w' ⟨rfl, rfl⟩))
        go_ret
        exact ⟨ret_int HE.out.symm, HB5.out⟩
     ·have HAB := Lib.hid (c_abbrs' g AR cR rs x W2 (Nat.lt_of_lt_of_le hcl HB2.out.size) ((HB2.out.cell hcl).trans hc0) ((HRR.out.below HB2.out).more HB2.out.size) HRO.out h1 h2)
      have HE := Lib.hid (show erE rs l k = absE rs x by rw [erE, HX.out, if_neg (by rw [HE0.out]; exact a0), HE0.out])
      obtain ⟨n, hn⟩ : ∃ n, absE rs x = n := ⟨_, rfl⟩
      rw [hn] at HAB HE a0
      have hn0 : (n != 0) = true := by rw [bne_iff_ne]; exact a0
      clear hn a0
      go_wp2_with fail
      refine HAB.out.mono ?_
      rintro e w5 ⟨rfl, hb5⟩
      go_wp2_with fail
      go_ret
      exact ⟨ret_int HE.out.symm, HB2.out.trans (hb5.mono HB2.out.size)⟩
    | false =>
     have HE := Lib.hid (show erE rs l k = 6 by have h : erE1 rs x = 6 := (by rw [erE1, if_neg (not_not_intro ho), if_neg (fun h => h.1 hs), if_pos ⟨hE, hR⟩]); rw [erE, HX.out, if_neg (by rw [h]; decide), h])
     have HT := Lib.hid (show Calls Tryz.prog 152 #[.slice AR rs.length cR, .func (.func 153) #[] #[.pointer (some ⟨w.heap.size + 1, 0, none⟩)]] W1 fun e w' => e = .returned (.bool false) ∧ Below W1.heap.size W1 w' from by have := t_rE AR cR rs (w.heap.size + 1) x.rules W1 ((HRR.out.below HB1.out).more HB1.out.size) h1 h2 kxl (kx 1); rw [show (rs.any fun z => sEq z.name x.rules) = false from hR] at this; exact this)
     clear ho hE hs hR
     go_wp2_with ((go_at_call 32; refine (b_within _ _ _ _).mono ?_; rintro e w' ⟨rfl, rfl⟩))
     refine HT.out.mono ?_
     rintro e W2 ⟨rfl, hb2⟩
     go_wp2_with fail
     go_ret
     exact ⟨ret_int HE.out.symm, HB1.out.trans (hb2.mono HB1.out.size)⟩
   ·have hs2 : (x.save != 0) = true := by rw [bne_iff_ne]; exact hs
    have HE := Lib.hid (show erE rs l k = 5 by have h : erE1 rs x = 5 := (by rw [erE1, if_neg (not_not_intro ho), if_pos ⟨hs, hE⟩]); rw [erE, HX.out, if_neg (by rw [h]; decide), h])
    clear ho hE hs
    go_wp2_with ((go_at_call 32; refine (b_within _ _ _ _).mono ?_; rintro e w' ⟨rfl, rfl⟩))
    go_ret
    exact ⟨ret_int HE.out.symm, HB1.out⟩
 ·have HE := Lib.hid (show erE rs l k = 1 by have h : erE1 rs x = 1 := (by rw [erE1, if_pos ho]); rw [erE, HX.out, if_neg (by rw [h]; decide), h])
  by_cases ho1 : -64800 ≤ x.off ∧ x.off ≤ 64800
  ·have d1 : decide (-64800 ≤ x.off ∧ x.off ≤ 64800) = true := decide_eq_true ho1
   have d2 : decide (0 ≤ x.save ∧ x.save ≤ 10800) = false := decide_eq_false (fun h => ho ⟨ho1, h⟩)
   clear ho ho1
   go_wp2_with ((go_at_call 32; refine (b_within _ _ _ _).mono ?_; rintro e w' ⟨rfl, rfl⟩))
   go_ret
   exact ⟨ret_int HE.out.symm, HB1.out⟩
  ·have d1 : decide (-64800 ≤ x.off ∧ x.off ≤ 64800) = false := decide_eq_false ho1
   clear ho ho1
   go_wp2_with ((go_at_call 32; refine (b_within _ _ _ _).mono ?_; rintro e w' ⟨rfl, rfl⟩))
   go_ret
   exact ⟨ret_int HE.out.symm, HB1.out⟩
end Go.Proofs.YthppifcggmdmoaaGreatDoor
namespace Go.Proofs.YthppifcggmdmoaaGreatDoor
open Go.RowKit
set_option linter.unusedVariables false
attribute [local go_sem ↓] Go.wp_at_zero Go.wp_at_succ
abbrev zoA (nm : ByteArray) (A : Option Addr) (cap : Nat) (l : List ErT) : Array Value := #[.string nm, .slice A l.length cap]
theorem sl_tk {w : World} {B size : Nat} {A : Option Addr} {α : Type} {f : α → List Value} {l : List α} (h : SlAt w B size A (l.map f)) (n : Nat) : SlAt w B size A ((l.take n).map f) := by
 intro hn
 rw [List.length_map, List.length_take] at hn
 obtain ⟨b, o, e, hb, hc⟩ := h (by rw [List.length_map]; omega)
 refine ⟨b, o, e, hb, fun i hi j hj => ?_⟩
 rw [List.length_map, List.length_take] at hi
 rw [hc i (by rw [List.length_map]; omega) j hj]
 simp [List.getD, List.getElem?_map, show i < n by omega]
set_option maxRecDepth 100000 in
set_option maxHeartbeats 4000000 in
theorem c_zone' (g : Nat) (AR AZ : Option Addr) (cR cZ : Nat) (rs : List RuT) (zs : List ZoT) (k : Nat) (w : World) (hcl : g < w.heap.size) (hc0 : w.cell? ⟨g, 0, none⟩ = some (.slice AR rs.length cR)) (hc1 : w.cell? ⟨g, 1, none⟩ = some (.slice AZ zs.length cZ))
  (hRR : SlAt w w.heap.size 11 AR (rs.map ruC)) (hRO : ∀ r ∈ rs, ruOk r) (h1 : rs.length ≤ cR) (h2 : cR ≤ maxLen) (hZZ : SlAt w w.heap.size 2 AZ (zs.map zoC)) (hZO : ∀ z ∈ zs, zoOk w w.heap.size z) (z1 : zs.length ≤ cZ) (z2 : cZ ≤ maxLen) (hk : k < zs.length) (HI : EraIn w) :
  Calls Tryz.prog 56 #[.pointer (some ⟨g, 0, none⟩), .int .i64 (k : Int)] w fun e w' => e = .returned (.int .i64 (zoE rs zs k)) ∧ Below w.heap.size w w' := by
 unfold maxLen at z2
 obtain ⟨b, o, rfl, hb, c0, c1⟩ := zo_at hZZ hk
 have hi1 : (0 : Int) ≤ (k : Int) := by omega
 have hi2 : (k : Int) < (zs.length : Int) := by omega
 have hi3 : (k : Int) ≤ (cZ : Int) := by omega
 have hzo := hZO _ (List.getElem_mem hk)
 have HZ := Lib.hid (show zs[k]! = zs[k] from get_bang hk)
 obtain ⟨⟨nm, A, cap, l⟩, hz⟩ : ∃ z, zs[k] = z := ⟨_, rfl⟩
 rw [hz] at c0 c1 hzo HZ
 obtain ⟨y1, y2, y3, y4, y5⟩ := hzo
 simp only at c0 c1 y1 y2 y3 y4 y5
 have y4' := y4
 unfold maxLen at y4'
 have X1 := TK.box w (zoA nm A cap l) 75
 have hcs := X1.1
 have hcz := X1.2.1
 have HRR := Lib.hid hRR
 have HRO := Lib.hid hRO
 have HY2 := Lib.hid y2
 have HB1 := Lib.hid X1.2.2
 have hcg := (HB1.out.cell (p := ⟨g, 1, none⟩) hcl).trans hc1
 have hlt : (zs.take k).length = k := by rw [List.length_take]; omega
 have HC := Lib.hid (t_zZ (some ⟨b, o, none⟩) cZ (zs.take k) w.heap.size nm _ ((sl_tk (hZZ.below HB1.out) k).more HB1.out.size) (by omega) (by unfold maxLen; omega) hcz (hcs 0))
 rw [hlt] at HC
 have HX1 := Lib.hid X1
 clear hz hRR hRO y2 X1 hZO hZZ hlt
 cases hN : isNameB nm.data.toList with
 | false =>
  have HE := Lib.hid (show zoE rs zs k = 3 by rw [zoE, HZ.out, if_pos hN])
  go_enter Tryz.func56, Tryz.ntmps56
  go_wp2_with (go_at_call 98; refine (u_IsName _ y1 _).mono ?_; rintro e w' ⟨rfl, rfl⟩)
  go_ret
  exact ⟨ret_int HE.out.symm, HB1.out⟩
 | true =>
  have HN := Lib.hid hN
  cases hD : hasZ (zs.take k) nm with
  | true =>
   have HE := Lib.hid (show zoE rs zs k = 7 by rw [zoE, HZ.out, if_neg (by rw [hN]; decide), if_pos hD])
   rw [show ((zs.take k).any fun z => sEq z.name nm) = true from hD] at HC
   clear hD
   go_enter Tryz.func56, Tryz.ntmps56
   go_wp2_with (go_at_call 98; refine (u_IsName _ y1 _).mono ?_; rintro e w' ⟨rfl, rfl⟩)
   refine HC.out.mono ?_
   rintro e w2 ⟨rfl, hb2⟩
   go_wp2_with fail
   go_ret
   exact ⟨ret_int HE.out.symm, HB1.out.trans (hb2.mono HB1.out.size)⟩
  | false =>
   have HE0 := Lib.hid (show zoE rs zs k = if l.length = 0 then 5 else if 700 < l.length then 2 else firE (erE rs l) l.length by rw [zoE, HZ.out, if_neg (by rw [hN]; decide), if_neg (by rw [hD]; decide)])
   rw [show ((zs.take k).any fun z => sEq z.name nm) = false from hD] at HC
   clear hD
   go_enter Tryz.func56, Tryz.ntmps56
   go_wp2_with (go_at_call 98; refine (u_IsName _ y1 _).mono ?_; rintro e w' ⟨rfl, rfl⟩)
   refine HC.out.mono ?_
   rintro e w2 ⟨rfl, hb2⟩
   have HT2 := Lib.hid (HX1.out.step hb2)
   have hcs := HT2.out.1
   have hcz := HT2.out.2.1
   clear hb2 HC c0 c1 hcg
   by_cases l0 : l.length = 0
   ·have HE := Lib.hid (show zoE rs zs k = 5 by rw [HE0.out, if_pos l0])
    have hl : ((l.length : Int) == 0) = true := by rw [l0]; rfl
    clear l0
    go_wp2_with fail
    go_ret
    exact ⟨ret_int HE.out.symm, HT2.out.2.2⟩
   ·have hl : ((l.length : Int) == 0) = false := by rw [beq_eq_false_iff_ne]; omega
    by_cases l7 : 700 < l.length
    ·have HE := Lib.hid (show zoE rs zs k = 2 by rw [HE0.out, if_neg l0, if_pos l7])
     clear l0
     go_wp2_with fail
     go_ret
     exact ⟨ret_int HE.out.symm, HT2.out.2.2⟩
    ·have HE1 := Lib.hid (show zoE rs zs k = firE (erE rs l) l.length by rw [HE0.out, if_neg l0, if_neg l7])
     clear l0 HE0
     go_wp2_with fail
     clear hcs hcz
     go_loopw [44] (fun i wr => ∃ j : Nat, j ≤ l.length ∧ i = .int .i64 j ∧ Hid (∀ q, q < j → erE rs l q = 0) ∧ TK w wr (zoA nm A cap l)) (fun i _ => l.length - (intOf i).toNat)
     case atStart => exact ⟨0, Nat.zero_le _, rfl, Lib.hid (fun q h => absurd h (by omega)), HT2.out⟩
     case round =>
      obtain ⟨j, hj, rfl, HQ, hT⟩ := hrel
      have HT := Lib.hid hT
      have hcs := hT.1
      have hcz := hT.2.1
      clear hT
      by_cases hlt : j < l.length
      ·have HC := Lib.hid (c_era' g AR A cR cap rs nm l j wr (Nat.lt_of_lt_of_le hcl HT.out.2.2.size) ((HT.out.2.2.cell hcl).trans hc0) ((HRR.out.below HT.out.2.2).more HT.out.2.2.size) HRO.out h1 h2 ((HY2.out.below HT.out.2.2).more HT.out.2.2.size) y5 y3 y4 hlt (HI.on HT.out.2.2))
       obtain ⟨n, hn⟩ : ∃ n, erE rs l j = n := ⟨_, rfl⟩
       rw [hn] at HC
       by_cases n0 : n = 0
       ·have hn0 : (n != 0) = false := by rw [n0]; rfl
        have HQ2 := Lib.hid (show ∀ q, q < j + 1 → erE rs l q = 0 from fun q hq => if h : q < j then HQ.out q h else (by obtain rfl : q = j := (by omega); rw [hn, n0]))
        clear n0 hn HQ
        go_wp2_with fail
        refine HC.out.mono ?_
        rintro e w3 ⟨rfl, hb3⟩
        go_wp2_with fail
        exact ⟨⟨j + 1, by omega, by go_num, HQ2, HT.out.step hb3⟩, by simp [intOf]; omega⟩
       ·have hn0 : (n != 0) = true := by rw [bne_iff_ne]; exact n0
        have HE := Lib.hid (show zoE rs zs k = n by rw [HE1.out, firE_at HQ.out (by rw [hn]; exact n0) hlt, hn])
        clear n0 hn HQ
        go_wp2_with fail
        refine HC.out.mono ?_
        rintro e w3 ⟨rfl, hb3⟩
        go_wp2_with fail
        go_ret
        exact ⟨ret_int HE.out.symm, (HT.out.step hb3).2.2⟩
      ·obtain rfl : j = l.length := by omega
       have HE := Lib.hid (show zoE rs zs k = 0 by rw [HE1.out, firE_zero HQ.out])
       clear HQ
       go_wp2_with fail
       go_ret
       exact ⟨ret_int HE.out.symm, HT.out.2.2⟩
theorem c_zone (g : Nat) (d : BkD) (k : Nat) (w : World) (H : CkAt w g d) (hk : k < d.zs.length) (HI : EraIn w) :
  Calls Tryz.prog 56 #[.pointer (some ⟨g, 0, none⟩), .int .i64 (k : Int)] w fun e w' => e = .returned (.int .i64 (zoE d.rs d.zs k)) ∧ Below w.heap.size w w' :=
 c_zone' g d.AR d.AZ d.cR d.cZ d.rs d.zs k w H.2.1 (H.2.2 0) (H.2.2 1) H.1.R H.1.rs H.1.hR H.1.mR H.1.Z H.1.zs H.1.hZ H.1.mZ hk HI
end Go.Proofs.YthppifcggmdmoaaGreatDoor
namespace Go.Proofs.YthppifcggmdmoaaGreatDoor
open Go.RowKit
set_option linter.unusedVariables false
set_option linter.unusedSimpArgs false
attribute [local go_sem ↓] Go.wp_at_zero Go.wp_at_succ
set_option maxRecDepth 100000 in
set_option maxHeartbeats 1000000 in
theorem f_link1 (g gp : Nat) (AZ : Option Addr) (cZ : Nat) (zs : List ZoT) (nm : ByteArray) (q : Bool) (w : World) (hg : g < w.heap.size) (hc : w.cell? ⟨g, 1, none⟩ = some (.slice AZ zs.length cZ)) (hp : gp < w.heap.size) (hcp : w.cell? ⟨gp, 0, none⟩ = some (.pointer (some ⟨g, 0, none⟩)))
  (hZ : SlAt w w.heap.size 2 AZ (zs.map zoC)) (h1 : zs.length ≤ cZ) (h2 : cZ ≤ maxLen) (hq : hasZ zs nm = q) :
  Calls Tryz.prog 106 #[.string nm, .pointer (some ⟨gp, 0, none⟩)] w fun e w' => e = .returned (.bool q) ∧ Below w.heap.size w w' := by
 have hb0 : Below w.heap.size w (w.alloc (.cells #[.string nm] 9)) := (by repeat (first | exact Below.refl _ _ | assumption | apply Below.drew | apply below_drewN | (refine Below.alloc ?_ (by simp; try omega) _) | (refine Below.setCell ?_ (by simp; try omega) _)))
 have X1 := TK.box w #[.string nm] 9
 have HC := Lib.hid (t_zL AZ cZ zs w.heap.size nm _ ((hZ.below hb0).more hb0.size) h1 h2 X1.2.1 (X1.1 0))
 rw [show (zs.any fun z => sEq z.name nm) = q from hq] at HC
 have k1 := (hb0.cell (p := ⟨g, 1, none⟩) hg).trans hc
 have k2 := (hb0.cell (p := ⟨gp, 0, none⟩) hp).trans hcp
 clear X1 hq
 go_enter Tryz.func106, Tryz.ntmps106
 go_wp2_with fail
 refine HC.out.mono ?_
 rintro e w1 ⟨rfl, hb⟩
 go_wp2_with fail
 go_ret
 exact ⟨rfl, hb0.trans (hb.mono hb0.size)⟩
set_option maxRecDepth 100000 in
set_option maxHeartbeats 1000000 in
theorem f_link2 (AL : Option Addr) (n cL : Nat) (ls : List LkT) (nm : ByteArray) (q : Bool) (w : World) (hn : ls.length = n) (hL : SlAt w w.heap.size 2 AL (ls.map lkC)) (h1 : n ≤ cL) (h2 : cL ≤ maxLen) (hq : hasL ls nm = q) :
  Calls Tryz.prog 108 #[.slice AL n cL, .string nm] w fun e w' => e = .returned (.bool q) ∧ Below w.heap.size w w' := by
 have hb0 : Below w.heap.size w (w.alloc (.cells #[.string nm] 9)) := (by repeat (first | exact Below.refl _ _ | assumption | apply Below.drew | apply below_drewN | (refine Below.alloc ?_ (by simp; try omega) _) | (refine Below.setCell ?_ (by simp; try omega) _)))
 have X1 := TK.box w #[.string nm] 9
 have HC := Lib.hid (t_lL AL cL ls w.heap.size nm _ ((hL.below hb0).more hb0.size) (by omega) h2 X1.2.1 (X1.1 0))
 rw [show (ls.any fun z => sEq z.1 nm) = q from hq, hn] at HC
 clear X1 hq
 go_enter Tryz.func108, Tryz.ntmps108
 go_wp2_with fail
 refine HC.out.mono ?_
 rintro e w1 ⟨rfl, hb⟩
 go_wp2_with fail
 go_ret
 exact ⟨rfl, hb0.trans (hb.mono hb0.size)⟩
set_option maxRecDepth 100000 in
set_option maxHeartbeats 8000000 in
theorem c_link' (g : Nat) (AZ AL : Option Addr) (cZ cL : Nat) (zs : List ZoT) (ls : List LkT) (k : Nat) (w : World) (hcl : g < w.heap.size) (hc1 : w.cell? ⟨g, 1, none⟩ = some (.slice AZ zs.length cZ)) (hc2 : w.cell? ⟨g, 2, none⟩ = some (.slice AL ls.length cL))
  (hZZ : SlAt w w.heap.size 2 AZ (zs.map zoC)) (z1 : zs.length ≤ cZ) (z2 : cZ ≤ maxLen) (hLL : SlAt w w.heap.size 2 AL (ls.map lkC)) (l1 : ls.length ≤ cL) (l2 : cL ≤ maxLen) (hLO : ∀ x ∈ ls, x.1.size ≤ maxLen ∧ x.2.size ≤ maxLen) (hk : k < ls.length) :
  Calls Tryz.prog 57 #[.pointer (some ⟨g, 0, none⟩), .int .i64 (k : Int)] w fun e w' => e = .returned (.int .i64 (lkE zs ls k)) ∧ Below w.heap.size w w' := by
 have l2' := l2
 unfold maxLen at l2'
 obtain ⟨b, o, rfl, hb, c0, c1⟩ := lk_at hLL hk
 have hi1 : (0 : Int) ≤ (k : Int) := by omega
 have hi2 : (k : Int) < (ls.length : Int) := by omega
 have hi3 : (k : Int) ≤ (cL : Int) := by omega
 have hxo := hLO _ (List.getElem_mem hk)
 have HX := Lib.hid (show ls[k]! = ls[k] from get_bang hk)
 obtain ⟨⟨a, t⟩, hx⟩ : ∃ x, ls[k] = x := ⟨_, rfl⟩
 rw [hx] at c0 c1 hxo HX
 obtain ⟨y1, y2⟩ := hxo
 simp only at c0 c1 y1 y2
 have hB1 := (Below.refl w.heap.size w).alloc (Nat.le_refl _) (.cells #[.pointer (some ⟨g, 0, none⟩)] 117)
 have hB2 := hB1.alloc (by simp) (.cells #[.string a, .string t] 77)
 have c0' := (hB1.cell (p := ⟨b, o + k * 2, none⟩) hb).trans c0
 have c1' := (hB1.cell (p := ⟨b, o + k * 2 + 1, none⟩) hb).trans c1
 have g2' := (hB1.cell (p := ⟨g, 2, none⟩) hcl).trans hc2
 have fx : ∀ i, ((w.alloc (.cells #[.pointer (some ⟨g, 0, none⟩)] 117)).alloc (.cells #[.string a, .string t] 77)).cell? ⟨w.heap.size + 1, i, none⟩ = (#[.string a, .string t] : Array Value)[i]? := fun i => cell_new _ _ _ _ _ (by rw [size_alloc])
 have fp : ((w.alloc (.cells #[.pointer (some ⟨g, 0, none⟩)] 117)).alloc (.cells #[.string a, .string t] 77)).cell? ⟨w.heap.size, 0, none⟩ = some (.pointer (some ⟨g, 0, none⟩)) := by rw [cell_old _ _ _ (by rw [size_alloc]; exact Nat.lt_succ_self _), cell_new _ _ _ _ _ rfl]; rfl
 have hwz : ((w.alloc (.cells #[.pointer (some ⟨g, 0, none⟩)] 117)).alloc (.cells #[.string a, .string t] 77)).heap.size = w.heap.size + 2 := by rw [size_alloc, size_alloc]
 clear hx hLO c0 c1
 cases hA : isNameB a.data.toList with
 | false =>
  have HE := Lib.hid (show lkE zs ls k = 3 by rw [lkE, HX.out, if_pos (by show ¬ (isNameB a.data.toList = true ∧ _); rw [hA]; exact fun h => absurd h.1 (by decide))])
  go_enter Tryz.func57, Tryz.ntmps57
  go_wp2_with (go_at_call 98; refine (u_IsName _ (by assumption) _).mono ?_; rintro e w' ⟨rfl, rfl⟩)
  go_ret
  exact ⟨ret_int HE.out.symm, hB2⟩
 | true =>
  cases hT : isNameB t.data.toList with
  | false =>
   have HE := Lib.hid (show lkE zs ls k = 3 by rw [lkE, HX.out, if_pos (by show ¬ (_ ∧ isNameB t.data.toList = true); rw [hT]; exact fun h => absurd h.2 (by decide))])
   go_enter Tryz.func57, Tryz.ntmps57
   go_wp2_with (go_at_call 98; refine (u_IsName _ (by assumption) _).mono ?_; rintro e w' ⟨rfl, rfl⟩)
   go_ret
   exact ⟨ret_int HE.out.symm, hB2⟩
  | true =>
   have HE0 := Lib.hid (show lkE zs ls k = if hasZ zs a = true ∨ hasL (ls.take k) a = true then 7 else if hasZ zs t = false ∧ hasL ls t = false then 6 else 0 by rw [lkE, HX.out, if_neg (not_not_intro ⟨hA, hT⟩)])
   go_enter Tryz.func57, Tryz.ntmps57
   go_upto_region 6 with (go_at_call 98; refine (u_IsName _ (by assumption) _).mono ?_; rintro e w' ⟨rfl, rfl⟩)
   clear c0' c1' g2' hB1
   revert hB2 fx fp hwz
   generalize ((w.alloc (.cells #[.pointer (some ⟨g, 0, none⟩)] 117)).alloc (.cells #[.string a, .string t] 77)) = W2
   intro hB2 fx fp hwz
   have hxl : w.heap.size + 1 < W2.heap.size := by omega
   have hpl : w.heap.size < W2.heap.size := by omega
   have hgl : g < W2.heap.size := by omega
   have fg1 := (hB2.cell (p := ⟨g, 1, none⟩) hcl).trans hc1
   have fg2 := (hB2.cell (p := ⟨g, 2, none⟩) hcl).trans hc2
   have HZ2 := Lib.hid (hZZ.below hB2)
   have HL2 := Lib.hid (hLL.below hB2)
   have HB2 := Lib.hid hB2
   clear hB2 hZZ hLL hA hT
   cases hz : hasZ zs a with
   | true =>
    have HE := Lib.hid (show lkE zs ls k = 7 by rw [HE0.out, if_pos (Or.inl hz)])
    have C1 := Lib.hid (fun (V : World) (hb : Below W2.heap.size W2 V) => f_link1 g w.heap.size AZ cZ zs a true V (Nat.lt_of_lt_of_le hgl hb.size) ((hb.cell (p := ⟨g, 1, none⟩) hgl).trans fg1) (Nat.lt_of_lt_of_le hpl hb.size) ((hb.cell (p := ⟨w.heap.size, 0, none⟩) hpl).trans fp) ((HZ2.out.below (hb.mono HB2.out.size)).more (Nat.le_trans HB2.out.size hb.size)) z1 z2 hz)
    clear hz
    refine wp_region_noPanic ?_
    refine wp_region_held_drew (S := fun W' : World => Below W2.heap.size W2 W') (by kernel_rfl) (Below.refl _ _).drew (fun hHeld0 => ?_)
    have hHeld : Below W2.heap.size W2 W2.drew := hHeld0
    clear hHeld0
    refine wpAnyH_take (i := 0) (v := ?_) rfl (by kernel_rfl) (by kernel_rfl) (by kernel_rfl) (fun _ _ _ h => h) (Or.inl ⟨by rfl, ?_⟩) hHeld ?_
    rotate_left
    ·intro wq hSw
     have qx := fun i => (hSw.cell (p := ⟨w.heap.size + 1, i, none⟩) hxl).trans (fx i)
     have qp := (hSw.cell (p := ⟨w.heap.size, 0, none⟩) hpl).trans fp
     have qg1 := (hSw.cell (p := ⟨g, 1, none⟩) hgl).trans fg1
     have qg2 := (hSw.cell (p := ⟨g, 2, none⟩) hgl).trans fg2
     go_simp
     try with_reducible rfl
    try simp only [Act.put, List.getElem_toArray, List.getElem_cons_succ, List.getElem_cons_zero, List.setIfInBounds_toArray, List.set_cons_zero, List.set_cons_succ]
    refine wpAnyH_take (i := 1) (v := ?_) rfl (by kernel_rfl) (by kernel_rfl) (by kernel_rfl) (fun _ _ _ h => h) (Or.inl ⟨by rfl, ?_⟩) hHeld ?_
    rotate_left
    ·intro wq hSw
     have qx := fun i => (hSw.cell (p := ⟨w.heap.size + 1, i, none⟩) hxl).trans (fx i)
     have qp := (hSw.cell (p := ⟨w.heap.size, 0, none⟩) hpl).trans fp
     have qg1 := (hSw.cell (p := ⟨g, 1, none⟩) hgl).trans fg1
     have qg2 := (hSw.cell (p := ⟨g, 2, none⟩) hgl).trans fg2
     go_simp
     try with_reducible rfl
    try simp only [Act.put, List.getElem_toArray, List.getElem_cons_succ, List.getElem_cons_zero, List.setIfInBounds_toArray, List.set_cons_zero, List.set_cons_succ]
    refine wpAnyH_take (i := 2) (v := ?_) rfl (by kernel_rfl) (by kernel_rfl) (by kernel_rfl) (fun _ _ _ h => h) (Or.inl ⟨by rfl, ?_⟩) hHeld ?_
    rotate_left
    ·intro wq hSw
     have qx := fun i => (hSw.cell (p := ⟨w.heap.size + 1, i, none⟩) hxl).trans (fx i)
     have qp := (hSw.cell (p := ⟨w.heap.size, 0, none⟩) hpl).trans fp
     have qg1 := (hSw.cell (p := ⟨g, 1, none⟩) hgl).trans fg1
     have qg2 := (hSw.cell (p := ⟨g, 2, none⟩) hgl).trans fg2
     go_simp
     try with_reducible rfl
    try simp only [Act.put, List.getElem_toArray, List.getElem_cons_succ, List.getElem_cons_zero, List.setIfInBounds_toArray, List.set_cons_zero, List.set_cons_succ]
    refine wpAnyH_ready (rs := [3]) (by kernel_rfl) (by simp) ?_
    refine AllReadyH.cons rfl (fun K hK => ?_) AllReadyH.nil
    go_simp
    go_at_call 106
    refine (C1.out _ hHeld).mono ?_
    rintro e w8 ⟨rfl, hb8⟩
    have hS8 := hHeld.trans (hb8.mono hHeld.size)
    try go_wp2_with fail
    refine hK.out _ _ hS8 (fun hHeld2 => ?_)
    clear hK K hHeld hb8
    have hHeld := hS8
    clear hS8 hHeld2
    try simp only [Act.put, List.getElem_toArray, List.getElem_cons_succ, List.getElem_cons_zero, List.setIfInBounds_toArray, List.set_cons_zero, List.set_cons_succ]
    refine wpAnyH_take (i := 4) (v := ?_) rfl (by kernel_rfl) (by kernel_rfl) (by kernel_rfl) (fun _ _ _ h => h) (Or.inl ⟨by rfl, ?_⟩) hHeld ?_
    rotate_left
    ·intro wq hSw
     have qx := fun i => (hSw.cell (p := ⟨w.heap.size + 1, i, none⟩) hxl).trans (fx i)
     have qp := (hSw.cell (p := ⟨w.heap.size, 0, none⟩) hpl).trans fp
     have qg1 := (hSw.cell (p := ⟨g, 1, none⟩) hgl).trans fg1
     have qg2 := (hSw.cell (p := ⟨g, 2, none⟩) hgl).trans fg2
     go_simp
     try with_reducible rfl
    try simp only [Act.put, List.getElem_toArray, List.getElem_cons_succ, List.getElem_cons_zero, List.setIfInBounds_toArray, List.set_cons_zero, List.set_cons_succ]
    refine wpAnyH_take (i := 5) (v := undef) rfl (by kernel_rfl) (by kernel_rfl) (by kernel_rfl) (fun _ _ _ h => h) (Or.inr ⟨by kernel_rfl, rfl⟩) hHeld ?_
    try simp only [Act.put, List.getElem_toArray, List.getElem_cons_succ, List.getElem_cons_zero, List.setIfInBounds_toArray, List.set_cons_zero, List.set_cons_succ]
    refine wpAnyH_take (i := 6) (v := undef) rfl (by kernel_rfl) (by kernel_rfl) (by kernel_rfl) (fun _ _ _ h => h) (Or.inr ⟨by kernel_rfl, rfl⟩) hHeld ?_
    try simp only [Act.put, List.getElem_toArray, List.getElem_cons_succ, List.getElem_cons_zero, List.setIfInBounds_toArray, List.set_cons_zero, List.set_cons_succ]
    refine wpAnyH_take (i := 7) (v := undef) rfl (by kernel_rfl) (by kernel_rfl) (by kernel_rfl) (fun _ _ _ h => h) (Or.inr ⟨by kernel_rfl, rfl⟩) hHeld ?_
    try simp only [Act.put, List.getElem_toArray, List.getElem_cons_succ, List.getElem_cons_zero, List.setIfInBounds_toArray, List.set_cons_zero, List.set_cons_succ]
    refine wpAnyH_take (i := 8) (v := undef) rfl (by kernel_rfl) (by kernel_rfl) (by kernel_rfl) (fun _ _ _ h => h) (Or.inr ⟨by kernel_rfl, rfl⟩) hHeld ?_
    try simp only [Act.put, List.getElem_toArray, List.getElem_cons_succ, List.getElem_cons_zero, List.setIfInBounds_toArray, List.set_cons_zero, List.set_cons_succ]
    refine wpAnyH_take (i := 9) (v := undef) rfl (by kernel_rfl) (by kernel_rfl) (by kernel_rfl) (fun _ _ _ h => h) (Or.inr ⟨by kernel_rfl, rfl⟩) hHeld ?_
    try simp only [Act.put, List.getElem_toArray, List.getElem_cons_succ, List.getElem_cons_zero, List.setIfInBounds_toArray, List.set_cons_zero, List.set_cons_succ]
    refine wpAnyH_take (i := 10) (v := undef) rfl (by kernel_rfl) (by kernel_rfl) (by kernel_rfl) (fun _ _ _ h => h) (Or.inr ⟨by kernel_rfl, rfl⟩) hHeld ?_
    try simp only [Act.put, List.getElem_toArray, List.getElem_cons_succ, List.getElem_cons_zero, List.setIfInBounds_toArray, List.set_cons_zero, List.set_cons_succ]
    refine wpAnyH_take (i := 11) (v := undef) rfl (by kernel_rfl) (by kernel_rfl) (by kernel_rfl) (fun _ _ _ h => h) (Or.inr ⟨by kernel_rfl, rfl⟩) hHeld ?_
    try simp only [Act.put, List.getElem_toArray, List.getElem_cons_succ, List.getElem_cons_zero, List.setIfInBounds_toArray, List.set_cons_zero, List.set_cons_succ]
    refine wpAnyH_take (i := 12) (v := undef) rfl (by kernel_rfl) (by kernel_rfl) (by kernel_rfl) (fun _ _ _ h => h) (Or.inr ⟨by kernel_rfl, rfl⟩) hHeld ?_
    try simp only [Act.put, List.getElem_toArray, List.getElem_cons_succ, List.getElem_cons_zero, List.setIfInBounds_toArray, List.set_cons_zero, List.set_cons_succ]
    refine wpAnyH_take (i := 13) (v := undef) rfl (by kernel_rfl) (by kernel_rfl) (by kernel_rfl) (fun _ _ _ h => h) (Or.inr ⟨by kernel_rfl, rfl⟩) hHeld ?_
    try simp only [Act.put, List.getElem_toArray, List.getElem_cons_succ, List.getElem_cons_zero, List.setIfInBounds_toArray, List.set_cons_zero, List.set_cons_succ]
    refine wpAnyH_take (i := 14) (v := undef) rfl (by kernel_rfl) (by kernel_rfl) (by kernel_rfl) (fun _ _ _ h => h) (Or.inr ⟨by kernel_rfl, rfl⟩) hHeld ?_
    try simp only [Act.put, List.getElem_toArray, List.getElem_cons_succ, List.getElem_cons_zero, List.setIfInBounds_toArray, List.set_cons_zero, List.set_cons_succ]
    refine wpAnyH_take (i := 15) (v := undef) rfl (by kernel_rfl) (by kernel_rfl) (by kernel_rfl) (fun _ _ _ h => h) (Or.inr ⟨by kernel_rfl, rfl⟩) hHeld ?_
    try simp only [Act.put, List.getElem_toArray, List.getElem_cons_succ, List.getElem_cons_zero, List.setIfInBounds_toArray, List.set_cons_zero, List.set_cons_succ]
    refine wpAnyH_take (i := 16) (v := ?_) rfl (by kernel_rfl) (by kernel_rfl) (by kernel_rfl) (fun _ _ _ h => h) (Or.inl ⟨by rfl, ?_⟩) hHeld ?_
    rotate_left
    ·intro wq hSw
     have qx := fun i => (hSw.cell (p := ⟨w.heap.size + 1, i, none⟩) hxl).trans (fx i)
     have qp := (hSw.cell (p := ⟨w.heap.size, 0, none⟩) hpl).trans fp
     have qg1 := (hSw.cell (p := ⟨g, 1, none⟩) hgl).trans fg1
     have qg2 := (hSw.cell (p := ⟨g, 2, none⟩) hgl).trans fg2
     go_simp
     try with_reducible rfl
    try simp only [Act.put, List.getElem_toArray, List.getElem_cons_succ, List.getElem_cons_zero, List.setIfInBounds_toArray, List.set_cons_zero, List.set_cons_succ]
    refine wpAnyH_take (i := 17) (v := ?_) rfl (by kernel_rfl) (by kernel_rfl) (by kernel_rfl) (fun _ _ _ h => h) (Or.inl ⟨by rfl, ?_⟩) hHeld ?_
    rotate_left
    ·intro wq hSw
     have qx := fun i => (hSw.cell (p := ⟨w.heap.size + 1, i, none⟩) hxl).trans (fx i)
     have qp := (hSw.cell (p := ⟨w.heap.size, 0, none⟩) hpl).trans fp
     have qg1 := (hSw.cell (p := ⟨g, 1, none⟩) hgl).trans fg1
     have qg2 := (hSw.cell (p := ⟨g, 2, none⟩) hgl).trans fg2
     go_simp
     try with_reducible rfl
    try simp only [Act.put, List.getElem_toArray, List.getElem_cons_succ, List.getElem_cons_zero, List.setIfInBounds_toArray, List.set_cons_zero, List.set_cons_succ]
    refine wpAnyH_done (by kernel_rfl) ?_ _
    refine NoPanic.normal ?_
    go_wp2_with fail
    go_ret
    exact ⟨ret_int HE.out.symm, HB2.out.trans (hHeld.mono HB2.out.size)⟩
   | false =>
    cases hl : hasL (ls.take k) a with
    | true =>
     have HE := Lib.hid (show lkE zs ls k = 7 by rw [HE0.out, if_pos (Or.inr hl)])
     have C1 := Lib.hid (fun (V : World) (hb : Below W2.heap.size W2 V) => f_link1 g w.heap.size AZ cZ zs a false V (Nat.lt_of_lt_of_le hgl hb.size) ((hb.cell (p := ⟨g, 1, none⟩) hgl).trans fg1) (Nat.lt_of_lt_of_le hpl hb.size) ((hb.cell (p := ⟨w.heap.size, 0, none⟩) hpl).trans fp) ((HZ2.out.below (hb.mono HB2.out.size)).more (Nat.le_trans HB2.out.size hb.size)) z1 z2 hz)
     have C2 := Lib.hid (fun (V : World) (hb : Below W2.heap.size W2 V) => f_link2 (some ⟨b, o, none⟩) k cL (ls.take k) a true V (by rw [List.length_take]; omega) ((sl_tk (HL2.out.below (hb.mono HB2.out.size)) k).more (Nat.le_trans HB2.out.size hb.size)) (by omega) l2 hl)
     clear hz hl
     refine wp_region_noPanic ?_
     refine wp_region_held_drew (S := fun W' : World => Below W2.heap.size W2 W') (by kernel_rfl) (Below.refl _ _).drew (fun hHeld0 => ?_)
     have hHeld : Below W2.heap.size W2 W2.drew := hHeld0
     clear hHeld0
     refine wpAnyH_take (i := 0) (v := ?_) rfl (by kernel_rfl) (by kernel_rfl) (by kernel_rfl) (fun _ _ _ h => h) (Or.inl ⟨by rfl, ?_⟩) hHeld ?_
     rotate_left
     ·intro wq hSw
      have qx := fun i => (hSw.cell (p := ⟨w.heap.size + 1, i, none⟩) hxl).trans (fx i)
      have qp := (hSw.cell (p := ⟨w.heap.size, 0, none⟩) hpl).trans fp
      have qg1 := (hSw.cell (p := ⟨g, 1, none⟩) hgl).trans fg1
      have qg2 := (hSw.cell (p := ⟨g, 2, none⟩) hgl).trans fg2
      go_simp
      try with_reducible rfl
     try simp only [Act.put, List.getElem_toArray, List.getElem_cons_succ, List.getElem_cons_zero, List.setIfInBounds_toArray, List.set_cons_zero, List.set_cons_succ]
     refine wpAnyH_take (i := 1) (v := ?_) rfl (by kernel_rfl) (by kernel_rfl) (by kernel_rfl) (fun _ _ _ h => h) (Or.inl ⟨by rfl, ?_⟩) hHeld ?_
     rotate_left
     ·intro wq hSw
      have qx := fun i => (hSw.cell (p := ⟨w.heap.size + 1, i, none⟩) hxl).trans (fx i)
      have qp := (hSw.cell (p := ⟨w.heap.size, 0, none⟩) hpl).trans fp
      have qg1 := (hSw.cell (p := ⟨g, 1, none⟩) hgl).trans fg1
      have qg2 := (hSw.cell (p := ⟨g, 2, none⟩) hgl).trans fg2
      go_simp
      try with_reducible rfl
     try simp only [Act.put, List.getElem_toArray, List.getElem_cons_succ, List.getElem_cons_zero, List.setIfInBounds_toArray, List.set_cons_zero, List.set_cons_succ]
     refine wpAnyH_take (i := 2) (v := ?_) rfl (by kernel_rfl) (by kernel_rfl) (by kernel_rfl) (fun _ _ _ h => h) (Or.inl ⟨by rfl, ?_⟩) hHeld ?_
     rotate_left
     ·intro wq hSw
      have qx := fun i => (hSw.cell (p := ⟨w.heap.size + 1, i, none⟩) hxl).trans (fx i)
      have qp := (hSw.cell (p := ⟨w.heap.size, 0, none⟩) hpl).trans fp
      have qg1 := (hSw.cell (p := ⟨g, 1, none⟩) hgl).trans fg1
      have qg2 := (hSw.cell (p := ⟨g, 2, none⟩) hgl).trans fg2
      go_simp
      try with_reducible rfl
     try simp only [Act.put, List.getElem_toArray, List.getElem_cons_succ, List.getElem_cons_zero, List.setIfInBounds_toArray, List.set_cons_zero, List.set_cons_succ]
     refine wpAnyH_ready (rs := [3]) (by kernel_rfl) (by simp) ?_
     refine AllReadyH.cons rfl (fun K hK => ?_) AllReadyH.nil
     go_simp
     go_at_call 106
     refine (C1.out _ hHeld).mono ?_
     rintro e w8 ⟨rfl, hb8⟩
     have hS8 := hHeld.trans (hb8.mono hHeld.size)
     try go_wp2_with fail
     refine hK.out _ _ hS8 (fun hHeld2 => ?_)
     clear hK K hHeld hb8
     have hHeld := hS8
     clear hS8 hHeld2
     try simp only [Act.put, List.getElem_toArray, List.getElem_cons_succ, List.getElem_cons_zero, List.setIfInBounds_toArray, List.set_cons_zero, List.set_cons_succ]
     refine wpAnyH_take (i := 4) (v := ?_) rfl (by kernel_rfl) (by kernel_rfl) (by kernel_rfl) (fun _ _ _ h => h) (Or.inl ⟨by rfl, ?_⟩) hHeld ?_
     rotate_left
     ·intro wq hSw
      have qx := fun i => (hSw.cell (p := ⟨w.heap.size + 1, i, none⟩) hxl).trans (fx i)
      have qp := (hSw.cell (p := ⟨w.heap.size, 0, none⟩) hpl).trans fp
      have qg1 := (hSw.cell (p := ⟨g, 1, none⟩) hgl).trans fg1
      have qg2 := (hSw.cell (p := ⟨g, 2, none⟩) hgl).trans fg2
      go_simp
      try with_reducible rfl
     try simp only [Act.put, List.getElem_toArray, List.getElem_cons_succ, List.getElem_cons_zero, List.setIfInBounds_toArray, List.set_cons_zero, List.set_cons_succ]
     refine wpAnyH_take (i := 5) (v := ?_) rfl (by kernel_rfl) (by kernel_rfl) (by kernel_rfl) (fun _ _ _ h => h) (Or.inl ⟨by rfl, ?_⟩) hHeld ?_
     rotate_left
     ·intro wq hSw
      have qx := fun i => (hSw.cell (p := ⟨w.heap.size + 1, i, none⟩) hxl).trans (fx i)
      have qp := (hSw.cell (p := ⟨w.heap.size, 0, none⟩) hpl).trans fp
      have qg1 := (hSw.cell (p := ⟨g, 1, none⟩) hgl).trans fg1
      have qg2 := (hSw.cell (p := ⟨g, 2, none⟩) hgl).trans fg2
      go_simp
      try with_reducible rfl
     try simp only [Act.put, List.getElem_toArray, List.getElem_cons_succ, List.getElem_cons_zero, List.setIfInBounds_toArray, List.set_cons_zero, List.set_cons_succ]
     refine wpAnyH_take (i := 6) (v := ?_) rfl (by kernel_rfl) (by kernel_rfl) (by kernel_rfl) (fun _ _ _ h => h) (Or.inl ⟨by rfl, ?_⟩) hHeld ?_
     rotate_left
     ·intro wq hSw
      have qx := fun i => (hSw.cell (p := ⟨w.heap.size + 1, i, none⟩) hxl).trans (fx i)
      have qp := (hSw.cell (p := ⟨w.heap.size, 0, none⟩) hpl).trans fp
      have qg1 := (hSw.cell (p := ⟨g, 1, none⟩) hgl).trans fg1
      have qg2 := (hSw.cell (p := ⟨g, 2, none⟩) hgl).trans fg2
      go_simp
      try with_reducible rfl
     try simp only [Act.put, List.getElem_toArray, List.getElem_cons_succ, List.getElem_cons_zero, List.setIfInBounds_toArray, List.set_cons_zero, List.set_cons_succ]
     refine wpAnyH_take (i := 7) (v := ?_) rfl (by kernel_rfl) (by kernel_rfl) (by kernel_rfl) (fun _ _ _ h => h) (Or.inl ⟨by rfl, ?_⟩) hHeld ?_
     rotate_left
     ·intro wq hSw
      have qx := fun i => (hSw.cell (p := ⟨w.heap.size + 1, i, none⟩) hxl).trans (fx i)
      have qp := (hSw.cell (p := ⟨w.heap.size, 0, none⟩) hpl).trans fp
      have qg1 := (hSw.cell (p := ⟨g, 1, none⟩) hgl).trans fg1
      have qg2 := (hSw.cell (p := ⟨g, 2, none⟩) hgl).trans fg2
      go_simp
      try with_reducible rfl
     try simp only [Act.put, List.getElem_toArray, List.getElem_cons_succ, List.getElem_cons_zero, List.setIfInBounds_toArray, List.set_cons_zero, List.set_cons_succ]
     refine wpAnyH_take (i := 8) (v := ?_) rfl (by kernel_rfl) (by kernel_rfl) (by kernel_rfl) (fun _ _ _ h => h) (Or.inl ⟨by rfl, ?_⟩) hHeld ?_
     rotate_left
     ·intro wq hSw
      have qx := fun i => (hSw.cell (p := ⟨w.heap.size + 1, i, none⟩) hxl).trans (fx i)
      have qp := (hSw.cell (p := ⟨w.heap.size, 0, none⟩) hpl).trans fp
      have qg1 := (hSw.cell (p := ⟨g, 1, none⟩) hgl).trans fg1
      have qg2 := (hSw.cell (p := ⟨g, 2, none⟩) hgl).trans fg2
      go_simp
      try with_reducible rfl
     try simp only [Act.put, List.getElem_toArray, List.getElem_cons_succ, List.getElem_cons_zero, List.setIfInBounds_toArray, List.set_cons_zero, List.set_cons_succ]
     refine wpAnyH_take (i := 9) (v := ?_) rfl (by kernel_rfl) (by kernel_rfl) (by kernel_rfl) (fun _ _ _ h => h) (Or.inl ⟨by rfl, ?_⟩) hHeld ?_
     rotate_left
     ·intro wq hSw
      have qx := fun i => (hSw.cell (p := ⟨w.heap.size + 1, i, none⟩) hxl).trans (fx i)
      have qp := (hSw.cell (p := ⟨w.heap.size, 0, none⟩) hpl).trans fp
      have qg1 := (hSw.cell (p := ⟨g, 1, none⟩) hgl).trans fg1
      have qg2 := (hSw.cell (p := ⟨g, 2, none⟩) hgl).trans fg2
      go_simp
      try with_reducible rfl
     try simp only [Act.put, List.getElem_toArray, List.getElem_cons_succ, List.getElem_cons_zero, List.setIfInBounds_toArray, List.set_cons_zero, List.set_cons_succ]
     refine wpAnyH_take (i := 10) (v := ?_) rfl (by kernel_rfl) (by kernel_rfl) (by kernel_rfl) (fun _ _ _ h => h) (Or.inl ⟨by rfl, ?_⟩) hHeld ?_
     rotate_left
     ·intro wq hSw
      have qx := fun i => (hSw.cell (p := ⟨w.heap.size + 1, i, none⟩) hxl).trans (fx i)
      have qp := (hSw.cell (p := ⟨w.heap.size, 0, none⟩) hpl).trans fp
      have qg1 := (hSw.cell (p := ⟨g, 1, none⟩) hgl).trans fg1
      have qg2 := (hSw.cell (p := ⟨g, 2, none⟩) hgl).trans fg2
      go_simp
      try with_reducible rfl
     try simp only [Act.put, List.getElem_toArray, List.getElem_cons_succ, List.getElem_cons_zero, List.setIfInBounds_toArray, List.set_cons_zero, List.set_cons_succ]
     refine wpAnyH_take (i := 11) (v := ?_) rfl (by kernel_rfl) (by kernel_rfl) (by kernel_rfl) (fun _ _ _ h => h) (Or.inl ⟨by rfl, ?_⟩) hHeld ?_
     rotate_left
     ·intro wq hSw
      have qx := fun i => (hSw.cell (p := ⟨w.heap.size + 1, i, none⟩) hxl).trans (fx i)
      have qp := (hSw.cell (p := ⟨w.heap.size, 0, none⟩) hpl).trans fp
      have qg1 := (hSw.cell (p := ⟨g, 1, none⟩) hgl).trans fg1
      have qg2 := (hSw.cell (p := ⟨g, 2, none⟩) hgl).trans fg2
      go_simp
      try with_reducible rfl
     try simp only [Act.put, List.getElem_toArray, List.getElem_cons_succ, List.getElem_cons_zero, List.setIfInBounds_toArray, List.set_cons_zero, List.set_cons_succ]
     refine wpAnyH_take (i := 12) (v := ?_) rfl (by kernel_rfl) (by kernel_rfl) (by kernel_rfl) (fun _ _ _ h => h) (Or.inl ⟨by rfl, ?_⟩) hHeld ?_
     rotate_left
     ·intro wq hSw
      have qx := fun i => (hSw.cell (p := ⟨w.heap.size + 1, i, none⟩) hxl).trans (fx i)
      have qp := (hSw.cell (p := ⟨w.heap.size, 0, none⟩) hpl).trans fp
      have qg1 := (hSw.cell (p := ⟨g, 1, none⟩) hgl).trans fg1
      have qg2 := (hSw.cell (p := ⟨g, 2, none⟩) hgl).trans fg2
      go_simp
      try with_reducible rfl
     try simp only [Act.put, List.getElem_toArray, List.getElem_cons_succ, List.getElem_cons_zero, List.setIfInBounds_toArray, List.set_cons_zero, List.set_cons_succ]
     refine wpAnyH_take (i := 13) (v := ?_) rfl (by kernel_rfl) (by kernel_rfl) (by kernel_rfl) (fun _ _ _ h => h) (Or.inl ⟨by rfl, ?_⟩) hHeld ?_
     rotate_left
     ·intro wq hSw
      have qx := fun i => (hSw.cell (p := ⟨w.heap.size + 1, i, none⟩) hxl).trans (fx i)
      have qp := (hSw.cell (p := ⟨w.heap.size, 0, none⟩) hpl).trans fp
      have qg1 := (hSw.cell (p := ⟨g, 1, none⟩) hgl).trans fg1
      have qg2 := (hSw.cell (p := ⟨g, 2, none⟩) hgl).trans fg2
      go_simp
      try with_reducible rfl
     try simp only [Act.put, List.getElem_toArray, List.getElem_cons_succ, List.getElem_cons_zero, List.setIfInBounds_toArray, List.set_cons_zero, List.set_cons_succ]
     refine wpAnyH_take (i := 14) (v := ?_) rfl (by kernel_rfl) (by kernel_rfl) (by kernel_rfl) (fun _ _ _ h => h) (Or.inl ⟨by rfl, ?_⟩) hHeld ?_
     rotate_left
     ·intro wq hSw
      have qx := fun i => (hSw.cell (p := ⟨w.heap.size + 1, i, none⟩) hxl).trans (fx i)
      have qp := (hSw.cell (p := ⟨w.heap.size, 0, none⟩) hpl).trans fp
      have qg1 := (hSw.cell (p := ⟨g, 1, none⟩) hgl).trans fg1
      have qg2 := (hSw.cell (p := ⟨g, 2, none⟩) hgl).trans fg2
      go_simp
      try with_reducible rfl
     try simp only [Act.put, List.getElem_toArray, List.getElem_cons_succ, List.getElem_cons_zero, List.setIfInBounds_toArray, List.set_cons_zero, List.set_cons_succ]
     refine wpAnyH_ready (rs := [15]) (by kernel_rfl) (by simp) ?_
     refine AllReadyH.cons rfl (fun K hK => ?_) AllReadyH.nil
     go_simp
     go_at_call 108
     refine (C2.out _ hHeld).mono ?_
     rintro e w8 ⟨rfl, hb8⟩
     have hS8 := hHeld.trans (hb8.mono hHeld.size)
     try go_wp2_with fail
     refine hK.out _ _ hS8 (fun hHeld2 => ?_)
     clear hK K hHeld hb8
     have hHeld := hS8
     clear hS8 hHeld2
     try simp only [Act.put, List.getElem_toArray, List.getElem_cons_succ, List.getElem_cons_zero, List.setIfInBounds_toArray, List.set_cons_zero, List.set_cons_succ]
     refine wpAnyH_take (i := 16) (v := ?_) rfl (by kernel_rfl) (by kernel_rfl) (by kernel_rfl) (fun _ _ _ h => h) (Or.inl ⟨by rfl, ?_⟩) hHeld ?_
     rotate_left
     ·intro wq hSw
      have qx := fun i => (hSw.cell (p := ⟨w.heap.size + 1, i, none⟩) hxl).trans (fx i)
      have qp := (hSw.cell (p := ⟨w.heap.size, 0, none⟩) hpl).trans fp
      have qg1 := (hSw.cell (p := ⟨g, 1, none⟩) hgl).trans fg1
      have qg2 := (hSw.cell (p := ⟨g, 2, none⟩) hgl).trans fg2
      go_simp
      try with_reducible rfl
     try simp only [Act.put, List.getElem_toArray, List.getElem_cons_succ, List.getElem_cons_zero, List.setIfInBounds_toArray, List.set_cons_zero, List.set_cons_succ]
     refine wpAnyH_take (i := 17) (v := ?_) rfl (by kernel_rfl) (by kernel_rfl) (by kernel_rfl) (fun _ _ _ h => h) (Or.inl ⟨by rfl, ?_⟩) hHeld ?_
     rotate_left
     ·intro wq hSw
      have qx := fun i => (hSw.cell (p := ⟨w.heap.size + 1, i, none⟩) hxl).trans (fx i)
      have qp := (hSw.cell (p := ⟨w.heap.size, 0, none⟩) hpl).trans fp
      have qg1 := (hSw.cell (p := ⟨g, 1, none⟩) hgl).trans fg1
      have qg2 := (hSw.cell (p := ⟨g, 2, none⟩) hgl).trans fg2
      go_simp
      try with_reducible rfl
     try simp only [Act.put, List.getElem_toArray, List.getElem_cons_succ, List.getElem_cons_zero, List.setIfInBounds_toArray, List.set_cons_zero, List.set_cons_succ]
     refine wpAnyH_done (by kernel_rfl) ?_ _
     refine NoPanic.normal ?_
     go_wp2_with fail
     go_ret
     exact ⟨ret_int HE.out.symm, HB2.out.trans (hHeld.mono HB2.out.size)⟩
    | false =>
     have HE1 := Lib.hid (show lkE zs ls k = if hasZ zs t = false ∧ hasL ls t = false then 6 else 0 by rw [HE0.out, if_neg (by rw [hz, hl]; decide)])
     have C1 := Lib.hid (fun (V : World) (hb : Below W2.heap.size W2 V) => f_link1 g w.heap.size AZ cZ zs a false V (Nat.lt_of_lt_of_le hgl hb.size) ((hb.cell (p := ⟨g, 1, none⟩) hgl).trans fg1) (Nat.lt_of_lt_of_le hpl hb.size) ((hb.cell (p := ⟨w.heap.size, 0, none⟩) hpl).trans fp) ((HZ2.out.below (hb.mono HB2.out.size)).more (Nat.le_trans HB2.out.size hb.size)) z1 z2 hz)
     have C2 := Lib.hid (fun (V : World) (hb : Below W2.heap.size W2 V) => f_link2 (some ⟨b, o, none⟩) k cL (ls.take k) a false V (by rw [List.length_take]; omega) ((sl_tk (HL2.out.below (hb.mono HB2.out.size)) k).more (Nat.le_trans HB2.out.size hb.size)) (by omega) l2 hl)
     clear hz hl
     refine wp_region_noPanic ?_
     refine wp_region_held_drew (S := fun W' : World => Below W2.heap.size W2 W') (by kernel_rfl) (Below.refl _ _).drew (fun hHeld0 => ?_)
     have hHeld : Below W2.heap.size W2 W2.drew := hHeld0
     clear hHeld0
     refine wpAnyH_take (i := 0) (v := ?_) rfl (by kernel_rfl) (by kernel_rfl) (by kernel_rfl) (fun _ _ _ h => h) (Or.inl ⟨by rfl, ?_⟩) hHeld ?_
     rotate_left
     ·intro wq hSw
      have qx := fun i => (hSw.cell (p := ⟨w.heap.size + 1, i, none⟩) hxl).trans (fx i)
      have qp := (hSw.cell (p := ⟨w.heap.size, 0, none⟩) hpl).trans fp
      have qg1 := (hSw.cell (p := ⟨g, 1, none⟩) hgl).trans fg1
      have qg2 := (hSw.cell (p := ⟨g, 2, none⟩) hgl).trans fg2
      go_simp
      try with_reducible rfl
     try simp only [Act.put, List.getElem_toArray, List.getElem_cons_succ, List.getElem_cons_zero, List.setIfInBounds_toArray, List.set_cons_zero, List.set_cons_succ]
     refine wpAnyH_take (i := 1) (v := ?_) rfl (by kernel_rfl) (by kernel_rfl) (by kernel_rfl) (fun _ _ _ h => h) (Or.inl ⟨by rfl, ?_⟩) hHeld ?_
     rotate_left
     ·intro wq hSw
      have qx := fun i => (hSw.cell (p := ⟨w.heap.size + 1, i, none⟩) hxl).trans (fx i)
      have qp := (hSw.cell (p := ⟨w.heap.size, 0, none⟩) hpl).trans fp
      have qg1 := (hSw.cell (p := ⟨g, 1, none⟩) hgl).trans fg1
      have qg2 := (hSw.cell (p := ⟨g, 2, none⟩) hgl).trans fg2
      go_simp
      try with_reducible rfl
     try simp only [Act.put, List.getElem_toArray, List.getElem_cons_succ, List.getElem_cons_zero, List.setIfInBounds_toArray, List.set_cons_zero, List.set_cons_succ]
     refine wpAnyH_take (i := 2) (v := ?_) rfl (by kernel_rfl) (by kernel_rfl) (by kernel_rfl) (fun _ _ _ h => h) (Or.inl ⟨by rfl, ?_⟩) hHeld ?_
     rotate_left
     ·intro wq hSw
      have qx := fun i => (hSw.cell (p := ⟨w.heap.size + 1, i, none⟩) hxl).trans (fx i)
      have qp := (hSw.cell (p := ⟨w.heap.size, 0, none⟩) hpl).trans fp
      have qg1 := (hSw.cell (p := ⟨g, 1, none⟩) hgl).trans fg1
      have qg2 := (hSw.cell (p := ⟨g, 2, none⟩) hgl).trans fg2
      go_simp
      try with_reducible rfl
     try simp only [Act.put, List.getElem_toArray, List.getElem_cons_succ, List.getElem_cons_zero, List.setIfInBounds_toArray, List.set_cons_zero, List.set_cons_succ]
     refine wpAnyH_ready (rs := [3]) (by kernel_rfl) (by simp) ?_
     refine AllReadyH.cons rfl (fun K hK => ?_) AllReadyH.nil
     go_simp
     go_at_call 106
     refine (C1.out _ hHeld).mono ?_
     rintro e w8 ⟨rfl, hb8⟩
     have hS8 := hHeld.trans (hb8.mono hHeld.size)
     try go_wp2_with fail
     refine hK.out _ _ hS8 (fun hHeld2 => ?_)
     clear hK K hHeld hb8
     have hHeld := hS8
     clear hS8 hHeld2
     try simp only [Act.put, List.getElem_toArray, List.getElem_cons_succ, List.getElem_cons_zero, List.setIfInBounds_toArray, List.set_cons_zero, List.set_cons_succ]
     refine wpAnyH_take (i := 4) (v := ?_) rfl (by kernel_rfl) (by kernel_rfl) (by kernel_rfl) (fun _ _ _ h => h) (Or.inl ⟨by rfl, ?_⟩) hHeld ?_
     rotate_left
     ·intro wq hSw
      have qx := fun i => (hSw.cell (p := ⟨w.heap.size + 1, i, none⟩) hxl).trans (fx i)
      have qp := (hSw.cell (p := ⟨w.heap.size, 0, none⟩) hpl).trans fp
      have qg1 := (hSw.cell (p := ⟨g, 1, none⟩) hgl).trans fg1
      have qg2 := (hSw.cell (p := ⟨g, 2, none⟩) hgl).trans fg2
      go_simp
      try with_reducible rfl
     try simp only [Act.put, List.getElem_toArray, List.getElem_cons_succ, List.getElem_cons_zero, List.setIfInBounds_toArray, List.set_cons_zero, List.set_cons_succ]
     refine wpAnyH_take (i := 5) (v := ?_) rfl (by kernel_rfl) (by kernel_rfl) (by kernel_rfl) (fun _ _ _ h => h) (Or.inl ⟨by rfl, ?_⟩) hHeld ?_
     rotate_left
     ·intro wq hSw
      have qx := fun i => (hSw.cell (p := ⟨w.heap.size + 1, i, none⟩) hxl).trans (fx i)
      have qp := (hSw.cell (p := ⟨w.heap.size, 0, none⟩) hpl).trans fp
      have qg1 := (hSw.cell (p := ⟨g, 1, none⟩) hgl).trans fg1
      have qg2 := (hSw.cell (p := ⟨g, 2, none⟩) hgl).trans fg2
      go_simp
      try with_reducible rfl
     try simp only [Act.put, List.getElem_toArray, List.getElem_cons_succ, List.getElem_cons_zero, List.setIfInBounds_toArray, List.set_cons_zero, List.set_cons_succ]
     refine wpAnyH_take (i := 6) (v := ?_) rfl (by kernel_rfl) (by kernel_rfl) (by kernel_rfl) (fun _ _ _ h => h) (Or.inl ⟨by rfl, ?_⟩) hHeld ?_
     rotate_left
     ·intro wq hSw
      have qx := fun i => (hSw.cell (p := ⟨w.heap.size + 1, i, none⟩) hxl).trans (fx i)
      have qp := (hSw.cell (p := ⟨w.heap.size, 0, none⟩) hpl).trans fp
      have qg1 := (hSw.cell (p := ⟨g, 1, none⟩) hgl).trans fg1
      have qg2 := (hSw.cell (p := ⟨g, 2, none⟩) hgl).trans fg2
      go_simp
      try with_reducible rfl
     try simp only [Act.put, List.getElem_toArray, List.getElem_cons_succ, List.getElem_cons_zero, List.setIfInBounds_toArray, List.set_cons_zero, List.set_cons_succ]
     refine wpAnyH_take (i := 7) (v := ?_) rfl (by kernel_rfl) (by kernel_rfl) (by kernel_rfl) (fun _ _ _ h => h) (Or.inl ⟨by rfl, ?_⟩) hHeld ?_
     rotate_left
     ·intro wq hSw
      have qx := fun i => (hSw.cell (p := ⟨w.heap.size + 1, i, none⟩) hxl).trans (fx i)
      have qp := (hSw.cell (p := ⟨w.heap.size, 0, none⟩) hpl).trans fp
      have qg1 := (hSw.cell (p := ⟨g, 1, none⟩) hgl).trans fg1
      have qg2 := (hSw.cell (p := ⟨g, 2, none⟩) hgl).trans fg2
      go_simp
      try with_reducible rfl
     try simp only [Act.put, List.getElem_toArray, List.getElem_cons_succ, List.getElem_cons_zero, List.setIfInBounds_toArray, List.set_cons_zero, List.set_cons_succ]
     refine wpAnyH_take (i := 8) (v := ?_) rfl (by kernel_rfl) (by kernel_rfl) (by kernel_rfl) (fun _ _ _ h => h) (Or.inl ⟨by rfl, ?_⟩) hHeld ?_
     rotate_left
     ·intro wq hSw
      have qx := fun i => (hSw.cell (p := ⟨w.heap.size + 1, i, none⟩) hxl).trans (fx i)
      have qp := (hSw.cell (p := ⟨w.heap.size, 0, none⟩) hpl).trans fp
      have qg1 := (hSw.cell (p := ⟨g, 1, none⟩) hgl).trans fg1
      have qg2 := (hSw.cell (p := ⟨g, 2, none⟩) hgl).trans fg2
      go_simp
      try with_reducible rfl
     try simp only [Act.put, List.getElem_toArray, List.getElem_cons_succ, List.getElem_cons_zero, List.setIfInBounds_toArray, List.set_cons_zero, List.set_cons_succ]
     refine wpAnyH_take (i := 9) (v := ?_) rfl (by kernel_rfl) (by kernel_rfl) (by kernel_rfl) (fun _ _ _ h => h) (Or.inl ⟨by rfl, ?_⟩) hHeld ?_
     rotate_left
     ·intro wq hSw
      have qx := fun i => (hSw.cell (p := ⟨w.heap.size + 1, i, none⟩) hxl).trans (fx i)
      have qp := (hSw.cell (p := ⟨w.heap.size, 0, none⟩) hpl).trans fp
      have qg1 := (hSw.cell (p := ⟨g, 1, none⟩) hgl).trans fg1
      have qg2 := (hSw.cell (p := ⟨g, 2, none⟩) hgl).trans fg2
      go_simp
      try with_reducible rfl
     try simp only [Act.put, List.getElem_toArray, List.getElem_cons_succ, List.getElem_cons_zero, List.setIfInBounds_toArray, List.set_cons_zero, List.set_cons_succ]
     refine wpAnyH_take (i := 10) (v := ?_) rfl (by kernel_rfl) (by kernel_rfl) (by kernel_rfl) (fun _ _ _ h => h) (Or.inl ⟨by rfl, ?_⟩) hHeld ?_
     rotate_left
     ·intro wq hSw
      have qx := fun i => (hSw.cell (p := ⟨w.heap.size + 1, i, none⟩) hxl).trans (fx i)
      have qp := (hSw.cell (p := ⟨w.heap.size, 0, none⟩) hpl).trans fp
      have qg1 := (hSw.cell (p := ⟨g, 1, none⟩) hgl).trans fg1
      have qg2 := (hSw.cell (p := ⟨g, 2, none⟩) hgl).trans fg2
      go_simp
      try with_reducible rfl
     try simp only [Act.put, List.getElem_toArray, List.getElem_cons_succ, List.getElem_cons_zero, List.setIfInBounds_toArray, List.set_cons_zero, List.set_cons_succ]
     refine wpAnyH_take (i := 11) (v := ?_) rfl (by kernel_rfl) (by kernel_rfl) (by kernel_rfl) (fun _ _ _ h => h) (Or.inl ⟨by rfl, ?_⟩) hHeld ?_
     rotate_left
     ·intro wq hSw
      have qx := fun i => (hSw.cell (p := ⟨w.heap.size + 1, i, none⟩) hxl).trans (fx i)
      have qp := (hSw.cell (p := ⟨w.heap.size, 0, none⟩) hpl).trans fp
      have qg1 := (hSw.cell (p := ⟨g, 1, none⟩) hgl).trans fg1
      have qg2 := (hSw.cell (p := ⟨g, 2, none⟩) hgl).trans fg2
      go_simp
      try with_reducible rfl
     try simp only [Act.put, List.getElem_toArray, List.getElem_cons_succ, List.getElem_cons_zero, List.setIfInBounds_toArray, List.set_cons_zero, List.set_cons_succ]
     refine wpAnyH_take (i := 12) (v := ?_) rfl (by kernel_rfl) (by kernel_rfl) (by kernel_rfl) (fun _ _ _ h => h) (Or.inl ⟨by rfl, ?_⟩) hHeld ?_
     rotate_left
     ·intro wq hSw
      have qx := fun i => (hSw.cell (p := ⟨w.heap.size + 1, i, none⟩) hxl).trans (fx i)
      have qp := (hSw.cell (p := ⟨w.heap.size, 0, none⟩) hpl).trans fp
      have qg1 := (hSw.cell (p := ⟨g, 1, none⟩) hgl).trans fg1
      have qg2 := (hSw.cell (p := ⟨g, 2, none⟩) hgl).trans fg2
      go_simp
      try with_reducible rfl
     try simp only [Act.put, List.getElem_toArray, List.getElem_cons_succ, List.getElem_cons_zero, List.setIfInBounds_toArray, List.set_cons_zero, List.set_cons_succ]
     refine wpAnyH_take (i := 13) (v := ?_) rfl (by kernel_rfl) (by kernel_rfl) (by kernel_rfl) (fun _ _ _ h => h) (Or.inl ⟨by rfl, ?_⟩) hHeld ?_
     rotate_left
     ·intro wq hSw
      have qx := fun i => (hSw.cell (p := ⟨w.heap.size + 1, i, none⟩) hxl).trans (fx i)
      have qp := (hSw.cell (p := ⟨w.heap.size, 0, none⟩) hpl).trans fp
      have qg1 := (hSw.cell (p := ⟨g, 1, none⟩) hgl).trans fg1
      have qg2 := (hSw.cell (p := ⟨g, 2, none⟩) hgl).trans fg2
      go_simp
      try with_reducible rfl
     try simp only [Act.put, List.getElem_toArray, List.getElem_cons_succ, List.getElem_cons_zero, List.setIfInBounds_toArray, List.set_cons_zero, List.set_cons_succ]
     refine wpAnyH_take (i := 14) (v := ?_) rfl (by kernel_rfl) (by kernel_rfl) (by kernel_rfl) (fun _ _ _ h => h) (Or.inl ⟨by rfl, ?_⟩) hHeld ?_
     rotate_left
     ·intro wq hSw
      have qx := fun i => (hSw.cell (p := ⟨w.heap.size + 1, i, none⟩) hxl).trans (fx i)
      have qp := (hSw.cell (p := ⟨w.heap.size, 0, none⟩) hpl).trans fp
      have qg1 := (hSw.cell (p := ⟨g, 1, none⟩) hgl).trans fg1
      have qg2 := (hSw.cell (p := ⟨g, 2, none⟩) hgl).trans fg2
      go_simp
      try with_reducible rfl
     try simp only [Act.put, List.getElem_toArray, List.getElem_cons_succ, List.getElem_cons_zero, List.setIfInBounds_toArray, List.set_cons_zero, List.set_cons_succ]
     refine wpAnyH_ready (rs := [15]) (by kernel_rfl) (by simp) ?_
     refine AllReadyH.cons rfl (fun K hK => ?_) AllReadyH.nil
     go_simp
     go_at_call 108
     refine (C2.out _ hHeld).mono ?_
     rintro e w8 ⟨rfl, hb8⟩
     have hS8 := hHeld.trans (hb8.mono hHeld.size)
     try go_wp2_with fail
     refine hK.out _ _ hS8 (fun hHeld2 => ?_)
     clear hK K hHeld hb8
     have hHeld := hS8
     clear hS8 hHeld2
     try simp only [Act.put, List.getElem_toArray, List.getElem_cons_succ, List.getElem_cons_zero, List.setIfInBounds_toArray, List.set_cons_zero, List.set_cons_succ]
     refine wpAnyH_take (i := 16) (v := ?_) rfl (by kernel_rfl) (by kernel_rfl) (by kernel_rfl) (fun _ _ _ h => h) (Or.inl ⟨by rfl, ?_⟩) hHeld ?_
     rotate_left
     ·intro wq hSw
      have qx := fun i => (hSw.cell (p := ⟨w.heap.size + 1, i, none⟩) hxl).trans (fx i)
      have qp := (hSw.cell (p := ⟨w.heap.size, 0, none⟩) hpl).trans fp
      have qg1 := (hSw.cell (p := ⟨g, 1, none⟩) hgl).trans fg1
      have qg2 := (hSw.cell (p := ⟨g, 2, none⟩) hgl).trans fg2
      go_simp
      try with_reducible rfl
     try simp only [Act.put, List.getElem_toArray, List.getElem_cons_succ, List.getElem_cons_zero, List.setIfInBounds_toArray, List.set_cons_zero, List.set_cons_succ]
     refine wpAnyH_take (i := 17) (v := ?_) rfl (by kernel_rfl) (by kernel_rfl) (by kernel_rfl) (fun _ _ _ h => h) (Or.inl ⟨by rfl, ?_⟩) hHeld ?_
     rotate_left
     ·intro wq hSw
      have qx := fun i => (hSw.cell (p := ⟨w.heap.size + 1, i, none⟩) hxl).trans (fx i)
      have qp := (hSw.cell (p := ⟨w.heap.size, 0, none⟩) hpl).trans fp
      have qg1 := (hSw.cell (p := ⟨g, 1, none⟩) hgl).trans fg1
      have qg2 := (hSw.cell (p := ⟨g, 2, none⟩) hgl).trans fg2
      go_simp
      try with_reducible rfl
     try simp only [Act.put, List.getElem_toArray, List.getElem_cons_succ, List.getElem_cons_zero, List.setIfInBounds_toArray, List.set_cons_zero, List.set_cons_succ]
     refine wpAnyH_done (by kernel_rfl) ?_ _
     refine NoPanic.normal ?_
     have HB3 := Lib.hid (HB2.out.trans (hHeld.mono HB2.out.size))
     replace fx := fun i => (hHeld.cell (p := ⟨w.heap.size + 1, i, none⟩) hxl).trans (fx i)
     replace fp := (hHeld.cell (p := ⟨w.heap.size, 0, none⟩) hpl).trans fp
     replace fg1 := (hHeld.cell (p := ⟨g, 1, none⟩) hgl).trans fg1
     replace fg2 := (hHeld.cell (p := ⟨g, 2, none⟩) hgl).trans fg2
     replace HZ2 := Lib.hid (HZ2.out.below (hHeld.mono HB2.out.size))
     replace HL2 := Lib.hid (HL2.out.below (hHeld.mono HB2.out.size))
     have hsz := hHeld.size
     clear hHeld C1 C2
     obtain ⟨W3, hW3⟩ : ∃ x, w8 = x := ⟨_, rfl⟩
     rw [hW3] at fx fp fg1 fg2 HZ2 HL2 HB3 hsz ⊢
     clear hW3
     replace hxl : w.heap.size + 1 < W3.heap.size := by omega
     replace hpl : w.heap.size < W3.heap.size := by omega
     replace hgl : g < W3.heap.size := by omega
     cases hz : hasZ zs t with
     | true =>
      have HE := Lib.hid (show lkE zs ls k = 0 by rw [HE1.out, if_neg (by rw [hz]; exact fun h => absurd h.1 (by decide))])
      have C1 := Lib.hid (fun (V : World) (hb : Below W3.heap.size W3 V) => f_link1 g w.heap.size AZ cZ zs t true V (Nat.lt_of_lt_of_le hgl hb.size) ((hb.cell (p := ⟨g, 1, none⟩) hgl).trans fg1) (Nat.lt_of_lt_of_le hpl hb.size) ((hb.cell (p := ⟨w.heap.size, 0, none⟩) hpl).trans fp) ((HZ2.out.below (hb.mono HB3.out.size)).more (Nat.le_trans HB3.out.size hb.size)) z1 z2 hz)
      clear hz
      go_upto_region 8 with fail
      refine wp_region_noPanic ?_
      refine wp_region_held_drew (S := fun W' : World => Below W3.heap.size W3 W') (by kernel_rfl) (Below.refl _ _).drew (fun hHeld0 => ?_)
      have hHeld : Below W3.heap.size W3 W3.drew := hHeld0
      clear hHeld0
      refine wpAnyH_take (i := 0) (v := ?_) rfl (by kernel_rfl) (by kernel_rfl) (by kernel_rfl) (fun _ _ _ h => h) (Or.inl ⟨by rfl, ?_⟩) hHeld ?_
      rotate_left
      ·intro wq hSw
       have qx := fun i => (hSw.cell (p := ⟨w.heap.size + 1, i, none⟩) hxl).trans (fx i)
       have qp := (hSw.cell (p := ⟨w.heap.size, 0, none⟩) hpl).trans fp
       have qg1 := (hSw.cell (p := ⟨g, 1, none⟩) hgl).trans fg1
       have qg2 := (hSw.cell (p := ⟨g, 2, none⟩) hgl).trans fg2
       go_simp
       try with_reducible rfl
      try simp only [Act.put, List.getElem_toArray, List.getElem_cons_succ, List.getElem_cons_zero, List.setIfInBounds_toArray, List.set_cons_zero, List.set_cons_succ]
      refine wpAnyH_take (i := 1) (v := ?_) rfl (by kernel_rfl) (by kernel_rfl) (by kernel_rfl) (fun _ _ _ h => h) (Or.inl ⟨by rfl, ?_⟩) hHeld ?_
      rotate_left
      ·intro wq hSw
       have qx := fun i => (hSw.cell (p := ⟨w.heap.size + 1, i, none⟩) hxl).trans (fx i)
       have qp := (hSw.cell (p := ⟨w.heap.size, 0, none⟩) hpl).trans fp
       have qg1 := (hSw.cell (p := ⟨g, 1, none⟩) hgl).trans fg1
       have qg2 := (hSw.cell (p := ⟨g, 2, none⟩) hgl).trans fg2
       go_simp
       try with_reducible rfl
      try simp only [Act.put, List.getElem_toArray, List.getElem_cons_succ, List.getElem_cons_zero, List.setIfInBounds_toArray, List.set_cons_zero, List.set_cons_succ]
      refine wpAnyH_take (i := 2) (v := ?_) rfl (by kernel_rfl) (by kernel_rfl) (by kernel_rfl) (fun _ _ _ h => h) (Or.inl ⟨by rfl, ?_⟩) hHeld ?_
      rotate_left
      ·intro wq hSw
       have qx := fun i => (hSw.cell (p := ⟨w.heap.size + 1, i, none⟩) hxl).trans (fx i)
       have qp := (hSw.cell (p := ⟨w.heap.size, 0, none⟩) hpl).trans fp
       have qg1 := (hSw.cell (p := ⟨g, 1, none⟩) hgl).trans fg1
       have qg2 := (hSw.cell (p := ⟨g, 2, none⟩) hgl).trans fg2
       go_simp
       try with_reducible rfl
      try simp only [Act.put, List.getElem_toArray, List.getElem_cons_succ, List.getElem_cons_zero, List.setIfInBounds_toArray, List.set_cons_zero, List.set_cons_succ]
      refine wpAnyH_ready (rs := [3]) (by kernel_rfl) (by simp) ?_
      refine AllReadyH.cons rfl (fun K hK => ?_) AllReadyH.nil
      go_simp
      go_at_call 106
      refine (C1.out _ hHeld).mono ?_
      rintro e w8 ⟨rfl, hb8⟩
      have hS8 := hHeld.trans (hb8.mono hHeld.size)
      try go_wp2_with fail
      refine hK.out _ _ hS8 (fun hHeld2 => ?_)
      clear hK K hHeld hb8
      have hHeld := hS8
      clear hS8 hHeld2
      try simp only [Act.put, List.getElem_toArray, List.getElem_cons_succ, List.getElem_cons_zero, List.setIfInBounds_toArray, List.set_cons_zero, List.set_cons_succ]
      refine wpAnyH_take (i := 4) (v := ?_) rfl (by kernel_rfl) (by kernel_rfl) (by kernel_rfl) (fun _ _ _ h => h) (Or.inl ⟨by rfl, ?_⟩) hHeld ?_
      rotate_left
      ·intro wq hSw
       have qx := fun i => (hSw.cell (p := ⟨w.heap.size + 1, i, none⟩) hxl).trans (fx i)
       have qp := (hSw.cell (p := ⟨w.heap.size, 0, none⟩) hpl).trans fp
       have qg1 := (hSw.cell (p := ⟨g, 1, none⟩) hgl).trans fg1
       have qg2 := (hSw.cell (p := ⟨g, 2, none⟩) hgl).trans fg2
       go_simp
       try with_reducible rfl
      try simp only [Act.put, List.getElem_toArray, List.getElem_cons_succ, List.getElem_cons_zero, List.setIfInBounds_toArray, List.set_cons_zero, List.set_cons_succ]
      refine wpAnyH_take (i := 5) (v := ?_) rfl (by kernel_rfl) (by kernel_rfl) (by kernel_rfl) (fun _ _ _ h => h) (Or.inl ⟨by rfl, ?_⟩) hHeld ?_
      rotate_left
      ·intro wq hSw
       have qx := fun i => (hSw.cell (p := ⟨w.heap.size + 1, i, none⟩) hxl).trans (fx i)
       have qp := (hSw.cell (p := ⟨w.heap.size, 0, none⟩) hpl).trans fp
       have qg1 := (hSw.cell (p := ⟨g, 1, none⟩) hgl).trans fg1
       have qg2 := (hSw.cell (p := ⟨g, 2, none⟩) hgl).trans fg2
       go_simp
       try with_reducible rfl
      try simp only [Act.put, List.getElem_toArray, List.getElem_cons_succ, List.getElem_cons_zero, List.setIfInBounds_toArray, List.set_cons_zero, List.set_cons_succ]
      refine wpAnyH_take (i := 6) (v := undef) rfl (by kernel_rfl) (by kernel_rfl) (by kernel_rfl) (fun _ _ _ h => h) (Or.inr ⟨by kernel_rfl, rfl⟩) hHeld ?_
      try simp only [Act.put, List.getElem_toArray, List.getElem_cons_succ, List.getElem_cons_zero, List.setIfInBounds_toArray, List.set_cons_zero, List.set_cons_succ]
      refine wpAnyH_take (i := 7) (v := undef) rfl (by kernel_rfl) (by kernel_rfl) (by kernel_rfl) (fun _ _ _ h => h) (Or.inr ⟨by kernel_rfl, rfl⟩) hHeld ?_
      try simp only [Act.put, List.getElem_toArray, List.getElem_cons_succ, List.getElem_cons_zero, List.setIfInBounds_toArray, List.set_cons_zero, List.set_cons_succ]
      refine wpAnyH_take (i := 8) (v := undef) rfl (by kernel_rfl) (by kernel_rfl) (by kernel_rfl) (fun _ _ _ h => h) (Or.inr ⟨by kernel_rfl, rfl⟩) hHeld ?_
      try simp only [Act.put, List.getElem_toArray, List.getElem_cons_succ, List.getElem_cons_zero, List.setIfInBounds_toArray, List.set_cons_zero, List.set_cons_succ]
      refine wpAnyH_take (i := 9) (v := undef) rfl (by kernel_rfl) (by kernel_rfl) (by kernel_rfl) (fun _ _ _ h => h) (Or.inr ⟨by kernel_rfl, rfl⟩) hHeld ?_
      try simp only [Act.put, List.getElem_toArray, List.getElem_cons_succ, List.getElem_cons_zero, List.setIfInBounds_toArray, List.set_cons_zero, List.set_cons_succ]
      refine wpAnyH_take (i := 10) (v := undef) rfl (by kernel_rfl) (by kernel_rfl) (by kernel_rfl) (fun _ _ _ h => h) (Or.inr ⟨by kernel_rfl, rfl⟩) hHeld ?_
      try simp only [Act.put, List.getElem_toArray, List.getElem_cons_succ, List.getElem_cons_zero, List.setIfInBounds_toArray, List.set_cons_zero, List.set_cons_succ]
      refine wpAnyH_take (i := 11) (v := undef) rfl (by kernel_rfl) (by kernel_rfl) (by kernel_rfl) (fun _ _ _ h => h) (Or.inr ⟨by kernel_rfl, rfl⟩) hHeld ?_
      try simp only [Act.put, List.getElem_toArray, List.getElem_cons_succ, List.getElem_cons_zero, List.setIfInBounds_toArray, List.set_cons_zero, List.set_cons_succ]
      refine wpAnyH_take (i := 12) (v := undef) rfl (by kernel_rfl) (by kernel_rfl) (by kernel_rfl) (fun _ _ _ h => h) (Or.inr ⟨by kernel_rfl, rfl⟩) hHeld ?_
      try simp only [Act.put, List.getElem_toArray, List.getElem_cons_succ, List.getElem_cons_zero, List.setIfInBounds_toArray, List.set_cons_zero, List.set_cons_succ]
      refine wpAnyH_take (i := 13) (v := undef) rfl (by kernel_rfl) (by kernel_rfl) (by kernel_rfl) (fun _ _ _ h => h) (Or.inr ⟨by kernel_rfl, rfl⟩) hHeld ?_
      try simp only [Act.put, List.getElem_toArray, List.getElem_cons_succ, List.getElem_cons_zero, List.setIfInBounds_toArray, List.set_cons_zero, List.set_cons_succ]
      refine wpAnyH_take (i := 14) (v := undef) rfl (by kernel_rfl) (by kernel_rfl) (by kernel_rfl) (fun _ _ _ h => h) (Or.inr ⟨by kernel_rfl, rfl⟩) hHeld ?_
      try simp only [Act.put, List.getElem_toArray, List.getElem_cons_succ, List.getElem_cons_zero, List.setIfInBounds_toArray, List.set_cons_zero, List.set_cons_succ]
      refine wpAnyH_take (i := 15) (v := undef) rfl (by kernel_rfl) (by kernel_rfl) (by kernel_rfl) (fun _ _ _ h => h) (Or.inr ⟨by kernel_rfl, rfl⟩) hHeld ?_
      try simp only [Act.put, List.getElem_toArray, List.getElem_cons_succ, List.getElem_cons_zero, List.setIfInBounds_toArray, List.set_cons_zero, List.set_cons_succ]
      refine wpAnyH_take (i := 16) (v := ?_) rfl (by kernel_rfl) (by kernel_rfl) (by kernel_rfl) (fun _ _ _ h => h) (Or.inl ⟨by rfl, ?_⟩) hHeld ?_
      rotate_left
      ·intro wq hSw
       have qx := fun i => (hSw.cell (p := ⟨w.heap.size + 1, i, none⟩) hxl).trans (fx i)
       have qp := (hSw.cell (p := ⟨w.heap.size, 0, none⟩) hpl).trans fp
       have qg1 := (hSw.cell (p := ⟨g, 1, none⟩) hgl).trans fg1
       have qg2 := (hSw.cell (p := ⟨g, 2, none⟩) hgl).trans fg2
       go_simp
       try with_reducible rfl
      try simp only [Act.put, List.getElem_toArray, List.getElem_cons_succ, List.getElem_cons_zero, List.setIfInBounds_toArray, List.set_cons_zero, List.set_cons_succ]
      refine wpAnyH_take (i := 17) (v := ?_) rfl (by kernel_rfl) (by kernel_rfl) (by kernel_rfl) (fun _ _ _ h => h) (Or.inl ⟨by rfl, ?_⟩) hHeld ?_
      rotate_left
      ·intro wq hSw
       have qx := fun i => (hSw.cell (p := ⟨w.heap.size + 1, i, none⟩) hxl).trans (fx i)
       have qp := (hSw.cell (p := ⟨w.heap.size, 0, none⟩) hpl).trans fp
       have qg1 := (hSw.cell (p := ⟨g, 1, none⟩) hgl).trans fg1
       have qg2 := (hSw.cell (p := ⟨g, 2, none⟩) hgl).trans fg2
       go_simp
       try with_reducible rfl
      try simp only [Act.put, List.getElem_toArray, List.getElem_cons_succ, List.getElem_cons_zero, List.setIfInBounds_toArray, List.set_cons_zero, List.set_cons_succ]
      refine wpAnyH_done (by kernel_rfl) ?_ _
      refine NoPanic.normal ?_
      go_wp2_with fail
      go_ret
      exact ⟨ret_int HE.out.symm, HB3.out.trans (hHeld.mono HB3.out.size)⟩
     | false =>
      cases hl : hasL ls t with
      | true =>
       have HE := Lib.hid (show lkE zs ls k = 0 by rw [HE1.out, if_neg (by rw [hl]; exact fun h => absurd h.2 (by decide))])
       have C1 := Lib.hid (fun (V : World) (hb : Below W3.heap.size W3 V) => f_link1 g w.heap.size AZ cZ zs t false V (Nat.lt_of_lt_of_le hgl hb.size) ((hb.cell (p := ⟨g, 1, none⟩) hgl).trans fg1) (Nat.lt_of_lt_of_le hpl hb.size) ((hb.cell (p := ⟨w.heap.size, 0, none⟩) hpl).trans fp) ((HZ2.out.below (hb.mono HB3.out.size)).more (Nat.le_trans HB3.out.size hb.size)) z1 z2 hz)
       have C2 := Lib.hid (fun (V : World) (hb : Below W3.heap.size W3 V) => f_link2 (some ⟨b, o, none⟩) ls.length cL ls t true V rfl ((HL2.out.below (hb.mono HB3.out.size)).more (Nat.le_trans HB3.out.size hb.size)) (by omega) l2 hl)
       clear hz hl
       go_upto_region 8 with fail
       refine wp_region_noPanic ?_
       refine wp_region_held_drew (S := fun W' : World => Below W3.heap.size W3 W') (by kernel_rfl) (Below.refl _ _).drew (fun hHeld0 => ?_)
       have hHeld : Below W3.heap.size W3 W3.drew := hHeld0
       clear hHeld0
       refine wpAnyH_take (i := 0) (v := ?_) rfl (by kernel_rfl) (by kernel_rfl) (by kernel_rfl) (fun _ _ _ h => h) (Or.inl ⟨by rfl, ?_⟩) hHeld ?_
       rotate_left
       ·intro wq hSw
        have qx := fun i => (hSw.cell (p := ⟨w.heap.size + 1, i, none⟩) hxl).trans (fx i)
        have qp := (hSw.cell (p := ⟨w.heap.size, 0, none⟩) hpl).trans fp
        have qg1 := (hSw.cell (p := ⟨g, 1, none⟩) hgl).trans fg1
        have qg2 := (hSw.cell (p := ⟨g, 2, none⟩) hgl).trans fg2
        go_simp
        try with_reducible rfl
       try simp only [Act.put, List.getElem_toArray, List.getElem_cons_succ, List.getElem_cons_zero, List.setIfInBounds_toArray, List.set_cons_zero, List.set_cons_succ]
       refine wpAnyH_take (i := 1) (v := ?_) rfl (by kernel_rfl) (by kernel_rfl) (by kernel_rfl) (fun _ _ _ h => h) (Or.inl ⟨by rfl, ?_⟩) hHeld ?_
       rotate_left
       ·intro wq hSw
        have qx := fun i => (hSw.cell (p := ⟨w.heap.size + 1, i, none⟩) hxl).trans (fx i)
        have qp := (hSw.cell (p := ⟨w.heap.size, 0, none⟩) hpl).trans fp
        have qg1 := (hSw.cell (p := ⟨g, 1, none⟩) hgl).trans fg1
        have qg2 := (hSw.cell (p := ⟨g, 2, none⟩) hgl).trans fg2
        go_simp
        try with_reducible rfl
       try simp only [Act.put, List.getElem_toArray, List.getElem_cons_succ, List.getElem_cons_zero, List.setIfInBounds_toArray, List.set_cons_zero, List.set_cons_succ]
       refine wpAnyH_take (i := 2) (v := ?_) rfl (by kernel_rfl) (by kernel_rfl) (by kernel_rfl) (fun _ _ _ h => h) (Or.inl ⟨by rfl, ?_⟩) hHeld ?_
       rotate_left
       ·intro wq hSw
        have qx := fun i => (hSw.cell (p := ⟨w.heap.size + 1, i, none⟩) hxl).trans (fx i)
        have qp := (hSw.cell (p := ⟨w.heap.size, 0, none⟩) hpl).trans fp
        have qg1 := (hSw.cell (p := ⟨g, 1, none⟩) hgl).trans fg1
        have qg2 := (hSw.cell (p := ⟨g, 2, none⟩) hgl).trans fg2
        go_simp
        try with_reducible rfl
       try simp only [Act.put, List.getElem_toArray, List.getElem_cons_succ, List.getElem_cons_zero, List.setIfInBounds_toArray, List.set_cons_zero, List.set_cons_succ]
       refine wpAnyH_ready (rs := [3]) (by kernel_rfl) (by simp) ?_
       refine AllReadyH.cons rfl (fun K hK => ?_) AllReadyH.nil
       go_simp
       go_at_call 106
       refine (C1.out _ hHeld).mono ?_
       rintro e w8 ⟨rfl, hb8⟩
       have hS8 := hHeld.trans (hb8.mono hHeld.size)
       try go_wp2_with fail
       refine hK.out _ _ hS8 (fun hHeld2 => ?_)
       clear hK K hHeld hb8
       have hHeld := hS8
       clear hS8 hHeld2
       try simp only [Act.put, List.getElem_toArray, List.getElem_cons_succ, List.getElem_cons_zero, List.setIfInBounds_toArray, List.set_cons_zero, List.set_cons_succ]
       refine wpAnyH_take (i := 4) (v := ?_) rfl (by kernel_rfl) (by kernel_rfl) (by kernel_rfl) (fun _ _ _ h => h) (Or.inl ⟨by rfl, ?_⟩) hHeld ?_
       rotate_left
       ·intro wq hSw
        have qx := fun i => (hSw.cell (p := ⟨w.heap.size + 1, i, none⟩) hxl).trans (fx i)
        have qp := (hSw.cell (p := ⟨w.heap.size, 0, none⟩) hpl).trans fp
        have qg1 := (hSw.cell (p := ⟨g, 1, none⟩) hgl).trans fg1
        have qg2 := (hSw.cell (p := ⟨g, 2, none⟩) hgl).trans fg2
        go_simp
        try with_reducible rfl
       try simp only [Act.put, List.getElem_toArray, List.getElem_cons_succ, List.getElem_cons_zero, List.setIfInBounds_toArray, List.set_cons_zero, List.set_cons_succ]
       refine wpAnyH_take (i := 5) (v := ?_) rfl (by kernel_rfl) (by kernel_rfl) (by kernel_rfl) (fun _ _ _ h => h) (Or.inl ⟨by rfl, ?_⟩) hHeld ?_
       rotate_left
       ·intro wq hSw
        have qx := fun i => (hSw.cell (p := ⟨w.heap.size + 1, i, none⟩) hxl).trans (fx i)
        have qp := (hSw.cell (p := ⟨w.heap.size, 0, none⟩) hpl).trans fp
        have qg1 := (hSw.cell (p := ⟨g, 1, none⟩) hgl).trans fg1
        have qg2 := (hSw.cell (p := ⟨g, 2, none⟩) hgl).trans fg2
        go_simp
        try with_reducible rfl
       try simp only [Act.put, List.getElem_toArray, List.getElem_cons_succ, List.getElem_cons_zero, List.setIfInBounds_toArray, List.set_cons_zero, List.set_cons_succ]
       refine wpAnyH_take (i := 6) (v := ?_) rfl (by kernel_rfl) (by kernel_rfl) (by kernel_rfl) (fun _ _ _ h => h) (Or.inl ⟨by rfl, ?_⟩) hHeld ?_
       rotate_left
       ·intro wq hSw
        have qx := fun i => (hSw.cell (p := ⟨w.heap.size + 1, i, none⟩) hxl).trans (fx i)
        have qp := (hSw.cell (p := ⟨w.heap.size, 0, none⟩) hpl).trans fp
        have qg1 := (hSw.cell (p := ⟨g, 1, none⟩) hgl).trans fg1
        have qg2 := (hSw.cell (p := ⟨g, 2, none⟩) hgl).trans fg2
        go_simp
        try with_reducible rfl
       try simp only [Act.put, List.getElem_toArray, List.getElem_cons_succ, List.getElem_cons_zero, List.setIfInBounds_toArray, List.set_cons_zero, List.set_cons_succ]
       refine wpAnyH_take (i := 7) (v := ?_) rfl (by kernel_rfl) (by kernel_rfl) (by kernel_rfl) (fun _ _ _ h => h) (Or.inl ⟨by rfl, ?_⟩) hHeld ?_
       rotate_left
       ·intro wq hSw
        have qx := fun i => (hSw.cell (p := ⟨w.heap.size + 1, i, none⟩) hxl).trans (fx i)
        have qp := (hSw.cell (p := ⟨w.heap.size, 0, none⟩) hpl).trans fp
        have qg1 := (hSw.cell (p := ⟨g, 1, none⟩) hgl).trans fg1
        have qg2 := (hSw.cell (p := ⟨g, 2, none⟩) hgl).trans fg2
        go_simp
        try with_reducible rfl
       try simp only [Act.put, List.getElem_toArray, List.getElem_cons_succ, List.getElem_cons_zero, List.setIfInBounds_toArray, List.set_cons_zero, List.set_cons_succ]
       refine wpAnyH_take (i := 8) (v := ?_) rfl (by kernel_rfl) (by kernel_rfl) (by kernel_rfl) (fun _ _ _ h => h) (Or.inl ⟨by rfl, ?_⟩) hHeld ?_
       rotate_left
       ·intro wq hSw
        have qx := fun i => (hSw.cell (p := ⟨w.heap.size + 1, i, none⟩) hxl).trans (fx i)
        have qp := (hSw.cell (p := ⟨w.heap.size, 0, none⟩) hpl).trans fp
        have qg1 := (hSw.cell (p := ⟨g, 1, none⟩) hgl).trans fg1
        have qg2 := (hSw.cell (p := ⟨g, 2, none⟩) hgl).trans fg2
        go_simp
        try with_reducible rfl
       try simp only [Act.put, List.getElem_toArray, List.getElem_cons_succ, List.getElem_cons_zero, List.setIfInBounds_toArray, List.set_cons_zero, List.set_cons_succ]
       refine wpAnyH_take (i := 9) (v := ?_) rfl (by kernel_rfl) (by kernel_rfl) (by kernel_rfl) (fun _ _ _ h => h) (Or.inl ⟨by rfl, ?_⟩) hHeld ?_
       rotate_left
       ·intro wq hSw
        have qx := fun i => (hSw.cell (p := ⟨w.heap.size + 1, i, none⟩) hxl).trans (fx i)
        have qp := (hSw.cell (p := ⟨w.heap.size, 0, none⟩) hpl).trans fp
        have qg1 := (hSw.cell (p := ⟨g, 1, none⟩) hgl).trans fg1
        have qg2 := (hSw.cell (p := ⟨g, 2, none⟩) hgl).trans fg2
        go_simp
        try with_reducible rfl
       try simp only [Act.put, List.getElem_toArray, List.getElem_cons_succ, List.getElem_cons_zero, List.setIfInBounds_toArray, List.set_cons_zero, List.set_cons_succ]
       refine wpAnyH_take (i := 10) (v := ?_) rfl (by kernel_rfl) (by kernel_rfl) (by kernel_rfl) (fun _ _ _ h => h) (Or.inl ⟨by rfl, ?_⟩) hHeld ?_
       rotate_left
       ·intro wq hSw
        have qx := fun i => (hSw.cell (p := ⟨w.heap.size + 1, i, none⟩) hxl).trans (fx i)
        have qp := (hSw.cell (p := ⟨w.heap.size, 0, none⟩) hpl).trans fp
        have qg1 := (hSw.cell (p := ⟨g, 1, none⟩) hgl).trans fg1
        have qg2 := (hSw.cell (p := ⟨g, 2, none⟩) hgl).trans fg2
        go_simp
        try with_reducible rfl
       try simp only [Act.put, List.getElem_toArray, List.getElem_cons_succ, List.getElem_cons_zero, List.setIfInBounds_toArray, List.set_cons_zero, List.set_cons_succ]
       refine wpAnyH_take (i := 11) (v := ?_) rfl (by kernel_rfl) (by kernel_rfl) (by kernel_rfl) (fun _ _ _ h => h) (Or.inl ⟨by rfl, ?_⟩) hHeld ?_
       rotate_left
       ·intro wq hSw
        have qx := fun i => (hSw.cell (p := ⟨w.heap.size + 1, i, none⟩) hxl).trans (fx i)
        have qp := (hSw.cell (p := ⟨w.heap.size, 0, none⟩) hpl).trans fp
        have qg1 := (hSw.cell (p := ⟨g, 1, none⟩) hgl).trans fg1
        have qg2 := (hSw.cell (p := ⟨g, 2, none⟩) hgl).trans fg2
        go_simp
        try with_reducible rfl
       try simp only [Act.put, List.getElem_toArray, List.getElem_cons_succ, List.getElem_cons_zero, List.setIfInBounds_toArray, List.set_cons_zero, List.set_cons_succ]
       refine wpAnyH_take (i := 12) (v := ?_) rfl (by kernel_rfl) (by kernel_rfl) (by kernel_rfl) (fun _ _ _ h => h) (Or.inl ⟨by rfl, ?_⟩) hHeld ?_
       rotate_left
       ·intro wq hSw
        have qx := fun i => (hSw.cell (p := ⟨w.heap.size + 1, i, none⟩) hxl).trans (fx i)
        have qp := (hSw.cell (p := ⟨w.heap.size, 0, none⟩) hpl).trans fp
        have qg1 := (hSw.cell (p := ⟨g, 1, none⟩) hgl).trans fg1
        have qg2 := (hSw.cell (p := ⟨g, 2, none⟩) hgl).trans fg2
        go_simp
        try with_reducible rfl
       try simp only [Act.put, List.getElem_toArray, List.getElem_cons_succ, List.getElem_cons_zero, List.setIfInBounds_toArray, List.set_cons_zero, List.set_cons_succ]
       refine wpAnyH_take (i := 13) (v := ?_) rfl (by kernel_rfl) (by kernel_rfl) (by kernel_rfl) (fun _ _ _ h => h) (Or.inl ⟨by rfl, ?_⟩) hHeld ?_
       rotate_left
       ·intro wq hSw
        have qx := fun i => (hSw.cell (p := ⟨w.heap.size + 1, i, none⟩) hxl).trans (fx i)
        have qp := (hSw.cell (p := ⟨w.heap.size, 0, none⟩) hpl).trans fp
        have qg1 := (hSw.cell (p := ⟨g, 1, none⟩) hgl).trans fg1
        have qg2 := (hSw.cell (p := ⟨g, 2, none⟩) hgl).trans fg2
        go_simp
        try with_reducible rfl
       try simp only [Act.put, List.getElem_toArray, List.getElem_cons_succ, List.getElem_cons_zero, List.setIfInBounds_toArray, List.set_cons_zero, List.set_cons_succ]
       refine wpAnyH_ready (rs := [14]) (by kernel_rfl) (by simp) ?_
       refine AllReadyH.cons rfl (fun K hK => ?_) AllReadyH.nil
       go_simp
       go_at_call 108
       refine (C2.out _ hHeld).mono ?_
       rintro e w8 ⟨rfl, hb8⟩
       have hS8 := hHeld.trans (hb8.mono hHeld.size)
       try go_wp2_with fail
       refine hK.out _ _ hS8 (fun hHeld2 => ?_)
       clear hK K hHeld hb8
       have hHeld := hS8
       clear hS8 hHeld2
       try simp only [Act.put, List.getElem_toArray, List.getElem_cons_succ, List.getElem_cons_zero, List.setIfInBounds_toArray, List.set_cons_zero, List.set_cons_succ]
       refine wpAnyH_take (i := 15) (v := ?_) rfl (by kernel_rfl) (by kernel_rfl) (by kernel_rfl) (fun _ _ _ h => h) (Or.inl ⟨by rfl, ?_⟩) hHeld ?_
       rotate_left
       ·intro wq hSw
        have qx := fun i => (hSw.cell (p := ⟨w.heap.size + 1, i, none⟩) hxl).trans (fx i)
        have qp := (hSw.cell (p := ⟨w.heap.size, 0, none⟩) hpl).trans fp
        have qg1 := (hSw.cell (p := ⟨g, 1, none⟩) hgl).trans fg1
        have qg2 := (hSw.cell (p := ⟨g, 2, none⟩) hgl).trans fg2
        go_simp
        try with_reducible rfl
       try simp only [Act.put, List.getElem_toArray, List.getElem_cons_succ, List.getElem_cons_zero, List.setIfInBounds_toArray, List.set_cons_zero, List.set_cons_succ]
       refine wpAnyH_take (i := 16) (v := ?_) rfl (by kernel_rfl) (by kernel_rfl) (by kernel_rfl) (fun _ _ _ h => h) (Or.inl ⟨by rfl, ?_⟩) hHeld ?_
       rotate_left
       ·intro wq hSw
        have qx := fun i => (hSw.cell (p := ⟨w.heap.size + 1, i, none⟩) hxl).trans (fx i)
        have qp := (hSw.cell (p := ⟨w.heap.size, 0, none⟩) hpl).trans fp
        have qg1 := (hSw.cell (p := ⟨g, 1, none⟩) hgl).trans fg1
        have qg2 := (hSw.cell (p := ⟨g, 2, none⟩) hgl).trans fg2
        go_simp
        try with_reducible rfl
       try simp only [Act.put, List.getElem_toArray, List.getElem_cons_succ, List.getElem_cons_zero, List.setIfInBounds_toArray, List.set_cons_zero, List.set_cons_succ]
       refine wpAnyH_take (i := 17) (v := ?_) rfl (by kernel_rfl) (by kernel_rfl) (by kernel_rfl) (fun _ _ _ h => h) (Or.inl ⟨by rfl, ?_⟩) hHeld ?_
       rotate_left
       ·intro wq hSw
        have qx := fun i => (hSw.cell (p := ⟨w.heap.size + 1, i, none⟩) hxl).trans (fx i)
        have qp := (hSw.cell (p := ⟨w.heap.size, 0, none⟩) hpl).trans fp
        have qg1 := (hSw.cell (p := ⟨g, 1, none⟩) hgl).trans fg1
        have qg2 := (hSw.cell (p := ⟨g, 2, none⟩) hgl).trans fg2
        go_simp
        try with_reducible rfl
       try simp only [Act.put, List.getElem_toArray, List.getElem_cons_succ, List.getElem_cons_zero, List.setIfInBounds_toArray, List.set_cons_zero, List.set_cons_succ]
       refine wpAnyH_done (by kernel_rfl) ?_ _
       refine NoPanic.normal ?_
       go_wp2_with fail
       go_ret
       exact ⟨ret_int HE.out.symm, HB3.out.trans (hHeld.mono HB3.out.size)⟩
      | false =>
       have HE := Lib.hid (show lkE zs ls k = 6 by rw [HE1.out, if_pos ⟨hz, hl⟩])
       have C1 := Lib.hid (fun (V : World) (hb : Below W3.heap.size W3 V) => f_link1 g w.heap.size AZ cZ zs t false V (Nat.lt_of_lt_of_le hgl hb.size) ((hb.cell (p := ⟨g, 1, none⟩) hgl).trans fg1) (Nat.lt_of_lt_of_le hpl hb.size) ((hb.cell (p := ⟨w.heap.size, 0, none⟩) hpl).trans fp) ((HZ2.out.below (hb.mono HB3.out.size)).more (Nat.le_trans HB3.out.size hb.size)) z1 z2 hz)
       have C2 := Lib.hid (fun (V : World) (hb : Below W3.heap.size W3 V) => f_link2 (some ⟨b, o, none⟩) ls.length cL ls t false V rfl ((HL2.out.below (hb.mono HB3.out.size)).more (Nat.le_trans HB3.out.size hb.size)) (by omega) l2 hl)
       clear hz hl
       go_upto_region 8 with fail
       refine wp_region_noPanic ?_
       refine wp_region_held_drew (S := fun W' : World => Below W3.heap.size W3 W') (by kernel_rfl) (Below.refl _ _).drew (fun hHeld0 => ?_)
       have hHeld : Below W3.heap.size W3 W3.drew := hHeld0
       clear hHeld0
       refine wpAnyH_take (i := 0) (v := ?_) rfl (by kernel_rfl) (by kernel_rfl) (by kernel_rfl) (fun _ _ _ h => h) (Or.inl ⟨by rfl, ?_⟩) hHeld ?_
       rotate_left
       ·intro wq hSw
        have qx := fun i => (hSw.cell (p := ⟨w.heap.size + 1, i, none⟩) hxl).trans (fx i)
        have qp := (hSw.cell (p := ⟨w.heap.size, 0, none⟩) hpl).trans fp
        have qg1 := (hSw.cell (p := ⟨g, 1, none⟩) hgl).trans fg1
        have qg2 := (hSw.cell (p := ⟨g, 2, none⟩) hgl).trans fg2
        go_simp
        try with_reducible rfl
       try simp only [Act.put, List.getElem_toArray, List.getElem_cons_succ, List.getElem_cons_zero, List.setIfInBounds_toArray, List.set_cons_zero, List.set_cons_succ]
       refine wpAnyH_take (i := 1) (v := ?_) rfl (by kernel_rfl) (by kernel_rfl) (by kernel_rfl) (fun _ _ _ h => h) (Or.inl ⟨by rfl, ?_⟩) hHeld ?_
       rotate_left
       ·intro wq hSw
        have qx := fun i => (hSw.cell (p := ⟨w.heap.size + 1, i, none⟩) hxl).trans (fx i)
        have qp := (hSw.cell (p := ⟨w.heap.size, 0, none⟩) hpl).trans fp
        have qg1 := (hSw.cell (p := ⟨g, 1, none⟩) hgl).trans fg1
        have qg2 := (hSw.cell (p := ⟨g, 2, none⟩) hgl).trans fg2
        go_simp
        try with_reducible rfl
       try simp only [Act.put, List.getElem_toArray, List.getElem_cons_succ, List.getElem_cons_zero, List.setIfInBounds_toArray, List.set_cons_zero, List.set_cons_succ]
       refine wpAnyH_take (i := 2) (v := ?_) rfl (by kernel_rfl) (by kernel_rfl) (by kernel_rfl) (fun _ _ _ h => h) (Or.inl ⟨by rfl, ?_⟩) hHeld ?_
       rotate_left
       ·intro wq hSw
        have qx := fun i => (hSw.cell (p := ⟨w.heap.size + 1, i, none⟩) hxl).trans (fx i)
        have qp := (hSw.cell (p := ⟨w.heap.size, 0, none⟩) hpl).trans fp
        have qg1 := (hSw.cell (p := ⟨g, 1, none⟩) hgl).trans fg1
        have qg2 := (hSw.cell (p := ⟨g, 2, none⟩) hgl).trans fg2
        go_simp
        try with_reducible rfl
       try simp only [Act.put, List.getElem_toArray, List.getElem_cons_succ, List.getElem_cons_zero, List.setIfInBounds_toArray, List.set_cons_zero, List.set_cons_succ]
       refine wpAnyH_ready (rs := [3]) (by kernel_rfl) (by simp) ?_
       refine AllReadyH.cons rfl (fun K hK => ?_) AllReadyH.nil
       go_simp
       go_at_call 106
       refine (C1.out _ hHeld).mono ?_
       rintro e w8 ⟨rfl, hb8⟩
       have hS8 := hHeld.trans (hb8.mono hHeld.size)
       try go_wp2_with fail
       refine hK.out _ _ hS8 (fun hHeld2 => ?_)
       clear hK K hHeld hb8
       have hHeld := hS8
       clear hS8 hHeld2
       try simp only [Act.put, List.getElem_toArray, List.getElem_cons_succ, List.getElem_cons_zero, List.setIfInBounds_toArray, List.set_cons_zero, List.set_cons_succ]
       refine wpAnyH_take (i := 4) (v := ?_) rfl (by kernel_rfl) (by kernel_rfl) (by kernel_rfl) (fun _ _ _ h => h) (Or.inl ⟨by rfl, ?_⟩) hHeld ?_
       rotate_left
       ·intro wq hSw
        have qx := fun i => (hSw.cell (p := ⟨w.heap.size + 1, i, none⟩) hxl).trans (fx i)
        have qp := (hSw.cell (p := ⟨w.heap.size, 0, none⟩) hpl).trans fp
        have qg1 := (hSw.cell (p := ⟨g, 1, none⟩) hgl).trans fg1
        have qg2 := (hSw.cell (p := ⟨g, 2, none⟩) hgl).trans fg2
        go_simp
        try with_reducible rfl
       try simp only [Act.put, List.getElem_toArray, List.getElem_cons_succ, List.getElem_cons_zero, List.setIfInBounds_toArray, List.set_cons_zero, List.set_cons_succ]
       refine wpAnyH_take (i := 5) (v := ?_) rfl (by kernel_rfl) (by kernel_rfl) (by kernel_rfl) (fun _ _ _ h => h) (Or.inl ⟨by rfl, ?_⟩) hHeld ?_
       rotate_left
       ·intro wq hSw
        have qx := fun i => (hSw.cell (p := ⟨w.heap.size + 1, i, none⟩) hxl).trans (fx i)
        have qp := (hSw.cell (p := ⟨w.heap.size, 0, none⟩) hpl).trans fp
        have qg1 := (hSw.cell (p := ⟨g, 1, none⟩) hgl).trans fg1
        have qg2 := (hSw.cell (p := ⟨g, 2, none⟩) hgl).trans fg2
        go_simp
        try with_reducible rfl
       try simp only [Act.put, List.getElem_toArray, List.getElem_cons_succ, List.getElem_cons_zero, List.setIfInBounds_toArray, List.set_cons_zero, List.set_cons_succ]
       refine wpAnyH_take (i := 6) (v := ?_) rfl (by kernel_rfl) (by kernel_rfl) (by kernel_rfl) (fun _ _ _ h => h) (Or.inl ⟨by rfl, ?_⟩) hHeld ?_
       rotate_left
       ·intro wq hSw
        have qx := fun i => (hSw.cell (p := ⟨w.heap.size + 1, i, none⟩) hxl).trans (fx i)
        have qp := (hSw.cell (p := ⟨w.heap.size, 0, none⟩) hpl).trans fp
        have qg1 := (hSw.cell (p := ⟨g, 1, none⟩) hgl).trans fg1
        have qg2 := (hSw.cell (p := ⟨g, 2, none⟩) hgl).trans fg2
        go_simp
        try with_reducible rfl
       try simp only [Act.put, List.getElem_toArray, List.getElem_cons_succ, List.getElem_cons_zero, List.setIfInBounds_toArray, List.set_cons_zero, List.set_cons_succ]
       refine wpAnyH_take (i := 7) (v := ?_) rfl (by kernel_rfl) (by kernel_rfl) (by kernel_rfl) (fun _ _ _ h => h) (Or.inl ⟨by rfl, ?_⟩) hHeld ?_
       rotate_left
       ·intro wq hSw
        have qx := fun i => (hSw.cell (p := ⟨w.heap.size + 1, i, none⟩) hxl).trans (fx i)
        have qp := (hSw.cell (p := ⟨w.heap.size, 0, none⟩) hpl).trans fp
        have qg1 := (hSw.cell (p := ⟨g, 1, none⟩) hgl).trans fg1
        have qg2 := (hSw.cell (p := ⟨g, 2, none⟩) hgl).trans fg2
        go_simp
        try with_reducible rfl
       try simp only [Act.put, List.getElem_toArray, List.getElem_cons_succ, List.getElem_cons_zero, List.setIfInBounds_toArray, List.set_cons_zero, List.set_cons_succ]
       refine wpAnyH_take (i := 8) (v := ?_) rfl (by kernel_rfl) (by kernel_rfl) (by kernel_rfl) (fun _ _ _ h => h) (Or.inl ⟨by rfl, ?_⟩) hHeld ?_
       rotate_left
       ·intro wq hSw
        have qx := fun i => (hSw.cell (p := ⟨w.heap.size + 1, i, none⟩) hxl).trans (fx i)
        have qp := (hSw.cell (p := ⟨w.heap.size, 0, none⟩) hpl).trans fp
        have qg1 := (hSw.cell (p := ⟨g, 1, none⟩) hgl).trans fg1
        have qg2 := (hSw.cell (p := ⟨g, 2, none⟩) hgl).trans fg2
        go_simp
        try with_reducible rfl
       try simp only [Act.put, List.getElem_toArray, List.getElem_cons_succ, List.getElem_cons_zero, List.setIfInBounds_toArray, List.set_cons_zero, List.set_cons_succ]
       refine wpAnyH_take (i := 9) (v := ?_) rfl (by kernel_rfl) (by kernel_rfl) (by kernel_rfl) (fun _ _ _ h => h) (Or.inl ⟨by rfl, ?_⟩) hHeld ?_
       rotate_left
       ·intro wq hSw
        have qx := fun i => (hSw.cell (p := ⟨w.heap.size + 1, i, none⟩) hxl).trans (fx i)
        have qp := (hSw.cell (p := ⟨w.heap.size, 0, none⟩) hpl).trans fp
        have qg1 := (hSw.cell (p := ⟨g, 1, none⟩) hgl).trans fg1
        have qg2 := (hSw.cell (p := ⟨g, 2, none⟩) hgl).trans fg2
        go_simp
        try with_reducible rfl
       try simp only [Act.put, List.getElem_toArray, List.getElem_cons_succ, List.getElem_cons_zero, List.setIfInBounds_toArray, List.set_cons_zero, List.set_cons_succ]
       refine wpAnyH_take (i := 10) (v := ?_) rfl (by kernel_rfl) (by kernel_rfl) (by kernel_rfl) (fun _ _ _ h => h) (Or.inl ⟨by rfl, ?_⟩) hHeld ?_
       rotate_left
       ·intro wq hSw
        have qx := fun i => (hSw.cell (p := ⟨w.heap.size + 1, i, none⟩) hxl).trans (fx i)
        have qp := (hSw.cell (p := ⟨w.heap.size, 0, none⟩) hpl).trans fp
        have qg1 := (hSw.cell (p := ⟨g, 1, none⟩) hgl).trans fg1
        have qg2 := (hSw.cell (p := ⟨g, 2, none⟩) hgl).trans fg2
        go_simp
        try with_reducible rfl
       try simp only [Act.put, List.getElem_toArray, List.getElem_cons_succ, List.getElem_cons_zero, List.setIfInBounds_toArray, List.set_cons_zero, List.set_cons_succ]
       refine wpAnyH_take (i := 11) (v := ?_) rfl (by kernel_rfl) (by kernel_rfl) (by kernel_rfl) (fun _ _ _ h => h) (Or.inl ⟨by rfl, ?_⟩) hHeld ?_
       rotate_left
       ·intro wq hSw
        have qx := fun i => (hSw.cell (p := ⟨w.heap.size + 1, i, none⟩) hxl).trans (fx i)
        have qp := (hSw.cell (p := ⟨w.heap.size, 0, none⟩) hpl).trans fp
        have qg1 := (hSw.cell (p := ⟨g, 1, none⟩) hgl).trans fg1
        have qg2 := (hSw.cell (p := ⟨g, 2, none⟩) hgl).trans fg2
        go_simp
        try with_reducible rfl
       try simp only [Act.put, List.getElem_toArray, List.getElem_cons_succ, List.getElem_cons_zero, List.setIfInBounds_toArray, List.set_cons_zero, List.set_cons_succ]
       refine wpAnyH_take (i := 12) (v := ?_) rfl (by kernel_rfl) (by kernel_rfl) (by kernel_rfl) (fun _ _ _ h => h) (Or.inl ⟨by rfl, ?_⟩) hHeld ?_
       rotate_left
       ·intro wq hSw
        have qx := fun i => (hSw.cell (p := ⟨w.heap.size + 1, i, none⟩) hxl).trans (fx i)
        have qp := (hSw.cell (p := ⟨w.heap.size, 0, none⟩) hpl).trans fp
        have qg1 := (hSw.cell (p := ⟨g, 1, none⟩) hgl).trans fg1
        have qg2 := (hSw.cell (p := ⟨g, 2, none⟩) hgl).trans fg2
        go_simp
        try with_reducible rfl
       try simp only [Act.put, List.getElem_toArray, List.getElem_cons_succ, List.getElem_cons_zero, List.setIfInBounds_toArray, List.set_cons_zero, List.set_cons_succ]
       refine wpAnyH_take (i := 13) (v := ?_) rfl (by kernel_rfl) (by kernel_rfl) (by kernel_rfl) (fun _ _ _ h => h) (Or.inl ⟨by rfl, ?_⟩) hHeld ?_
       rotate_left
       ·intro wq hSw
        have qx := fun i => (hSw.cell (p := ⟨w.heap.size + 1, i, none⟩) hxl).trans (fx i)
        have qp := (hSw.cell (p := ⟨w.heap.size, 0, none⟩) hpl).trans fp
        have qg1 := (hSw.cell (p := ⟨g, 1, none⟩) hgl).trans fg1
        have qg2 := (hSw.cell (p := ⟨g, 2, none⟩) hgl).trans fg2
        go_simp
        try with_reducible rfl
       try simp only [Act.put, List.getElem_toArray, List.getElem_cons_succ, List.getElem_cons_zero, List.setIfInBounds_toArray, List.set_cons_zero, List.set_cons_succ]
       refine wpAnyH_ready (rs := [14]) (by kernel_rfl) (by simp) ?_
       refine AllReadyH.cons rfl (fun K hK => ?_) AllReadyH.nil
       go_simp
       go_at_call 108
       refine (C2.out _ hHeld).mono ?_
       rintro e w8 ⟨rfl, hb8⟩
       have hS8 := hHeld.trans (hb8.mono hHeld.size)
       try go_wp2_with fail
       refine hK.out _ _ hS8 (fun hHeld2 => ?_)
       clear hK K hHeld hb8
       have hHeld := hS8
       clear hS8 hHeld2
       try simp only [Act.put, List.getElem_toArray, List.getElem_cons_succ, List.getElem_cons_zero, List.setIfInBounds_toArray, List.set_cons_zero, List.set_cons_succ]
       refine wpAnyH_take (i := 15) (v := ?_) rfl (by kernel_rfl) (by kernel_rfl) (by kernel_rfl) (fun _ _ _ h => h) (Or.inl ⟨by rfl, ?_⟩) hHeld ?_
       rotate_left
       ·intro wq hSw
        have qx := fun i => (hSw.cell (p := ⟨w.heap.size + 1, i, none⟩) hxl).trans (fx i)
        have qp := (hSw.cell (p := ⟨w.heap.size, 0, none⟩) hpl).trans fp
        have qg1 := (hSw.cell (p := ⟨g, 1, none⟩) hgl).trans fg1
        have qg2 := (hSw.cell (p := ⟨g, 2, none⟩) hgl).trans fg2
        go_simp
        try with_reducible rfl
       try simp only [Act.put, List.getElem_toArray, List.getElem_cons_succ, List.getElem_cons_zero, List.setIfInBounds_toArray, List.set_cons_zero, List.set_cons_succ]
       refine wpAnyH_take (i := 16) (v := ?_) rfl (by kernel_rfl) (by kernel_rfl) (by kernel_rfl) (fun _ _ _ h => h) (Or.inl ⟨by rfl, ?_⟩) hHeld ?_
       rotate_left
       ·intro wq hSw
        have qx := fun i => (hSw.cell (p := ⟨w.heap.size + 1, i, none⟩) hxl).trans (fx i)
        have qp := (hSw.cell (p := ⟨w.heap.size, 0, none⟩) hpl).trans fp
        have qg1 := (hSw.cell (p := ⟨g, 1, none⟩) hgl).trans fg1
        have qg2 := (hSw.cell (p := ⟨g, 2, none⟩) hgl).trans fg2
        go_simp
        try with_reducible rfl
       try simp only [Act.put, List.getElem_toArray, List.getElem_cons_succ, List.getElem_cons_zero, List.setIfInBounds_toArray, List.set_cons_zero, List.set_cons_succ]
       refine wpAnyH_take (i := 17) (v := ?_) rfl (by kernel_rfl) (by kernel_rfl) (by kernel_rfl) (fun _ _ _ h => h) (Or.inl ⟨by rfl, ?_⟩) hHeld ?_
       rotate_left
       ·intro wq hSw
        have qx := fun i => (hSw.cell (p := ⟨w.heap.size + 1, i, none⟩) hxl).trans (fx i)
        have qp := (hSw.cell (p := ⟨w.heap.size, 0, none⟩) hpl).trans fp
        have qg1 := (hSw.cell (p := ⟨g, 1, none⟩) hgl).trans fg1
        have qg2 := (hSw.cell (p := ⟨g, 2, none⟩) hgl).trans fg2
        go_simp
        try with_reducible rfl
       try simp only [Act.put, List.getElem_toArray, List.getElem_cons_succ, List.getElem_cons_zero, List.setIfInBounds_toArray, List.set_cons_zero, List.set_cons_succ]
       refine wpAnyH_done (by kernel_rfl) ?_ _
       refine NoPanic.normal ?_
       go_wp2_with fail
       go_ret
       exact ⟨ret_int HE.out.symm, HB3.out.trans (hHeld.mono HB3.out.size)⟩
theorem c_link (g : Nat) (d : BkD) (k : Nat) (w : World) (H : CkAt w g d) (hk : k < d.ls.length) :
  Calls Tryz.prog 57 #[.pointer (some ⟨g, 0, none⟩), .int .i64 (k : Int)] w fun e w' => e = .returned (.int .i64 (lkE d.zs d.ls k)) ∧ Below w.heap.size w w' :=
 c_link' g d.AZ d.AL d.cZ d.cL d.zs d.ls k w H.2.1 (H.2.2 1) (H.2.2 2) H.1.Z H.1.hZ H.1.mZ H.1.L H.1.hL H.1.mL H.1.ls hk
end Go.Proofs.YthppifcggmdmoaaGreatDoor
namespace Go.Proofs.YthppifcggmdmoaaGreatDoor
open Go.RowKit
set_option linter.unusedVariables false
attribute [local go_sem ↓] Go.wp_at_zero Go.wp_at_succ
theorem bookE_ru {rs : List RuT} {zs : List ZoT} {ls : List LkT} {n : Int} (h : ¬ (40 < rs.length ∨ 20 < zs.length ∨ 20 < ls.length)) (h1 : firE (fun j => ruEr rs[j]!) rs.length = n) (h0 : n ≠ 0) : bookE rs zs ls = n := by rw [bookE, if_neg h, h1, if_pos h0]
theorem bookE_zo {rs : List RuT} {zs : List ZoT} {ls : List LkT} {n : Int} (h : ¬ (40 < rs.length ∨ 20 < zs.length ∨ 20 < ls.length)) (h1 : firE (fun j => ruEr rs[j]!) rs.length = 0) (h2 : firE (zoE rs zs) zs.length = n) (h0 : n ≠ 0) : bookE rs zs ls = n := by
 rw [bookE, if_neg h, h1, if_neg (by simp), h2, if_pos h0]
theorem bookE_lk {rs : List RuT} {zs : List ZoT} {ls : List LkT} {n : Int} (h : ¬ (40 < rs.length ∨ 20 < zs.length ∨ 20 < ls.length)) (h1 : firE (fun j => ruEr rs[j]!) rs.length = 0) (h2 : firE (zoE rs zs) zs.length = 0) (h3 : firE (lkE zs ls) ls.length = n) : bookE rs zs ls = n := by
 rw [bookE, if_neg h, h1, if_neg (by simp), h2, if_neg (by simp), h3]
set_option maxRecDepth 100000 in
set_option maxHeartbeats 8000000 in
theorem c_Check' (AR AZ AL : Option Addr) (cR cZ cL : Nat) (rs : List RuT) (zs : List ZoT) (ls : List LkT) (w : World) (H : BkOk w w.heap.size ⟨AR, AZ, AL, cR, cZ, cL, rs, zs, ls⟩) (HI : EraIn w) :
  Calls Tryz.prog 22 #[.agg #[.slice AR rs.length cR, .slice AZ zs.length cZ, .slice AL ls.length cL]] w fun e w' => e = .returned (.int .i64 (bookE rs zs ls)) ∧ Below w.heap.size w w' := by
 have hRR := H.R
 have hRO := H.rs
 have h1 := H.hR
 have h2 := H.mR
 have h3 := H.hZ
 have h4 := H.mZ
 have h5 := H.hL
 have h6 := H.mL
 simp only at hRR hRO h1 h2 h3 h4 h5 h6
 unfold maxLen at h2 h4 h6
 have X1 := TK.box w #[.slice AR rs.length cR, .slice AZ zs.length cZ, .slice AL ls.length cL] 26
 have HX1 := Lib.hid X1
 have hcs := X1.1
 have hcz := X1.2.1
 have HH := Lib.hid H
 have HRR := Lib.hid hRR
 have HRO := Lib.hid hRO
 clear X1 H hRR hRO
 by_cases s1 : 40 < rs.length
 ·have HE := Lib.hid (show bookE rs zs ls = 2 by rw [bookE, if_pos (Or.inl s1)])
  go_enter Tryz.func22, Tryz.ntmps22
  go_wp2_with fail
  go_ret
  exact ⟨ret_int HE.out.symm, HX1.out.2.2⟩
 ·by_cases s2 : 20 < zs.length
  ·have HE := Lib.hid (show bookE rs zs ls = 2 by rw [bookE, if_pos (Or.inr (Or.inl s2))])
   go_enter Tryz.func22, Tryz.ntmps22
   go_wp2_with fail
   go_ret
   exact ⟨ret_int HE.out.symm, HX1.out.2.2⟩
  ·by_cases s3 : 20 < ls.length
   ·have HE := Lib.hid (show bookE rs zs ls = 2 by rw [bookE, if_pos (Or.inr (Or.inr s3))])
    go_enter Tryz.func22, Tryz.ntmps22
    go_wp2_with fail
    go_ret
    exact ⟨ret_int HE.out.symm, HX1.out.2.2⟩
   ·have HS := Lib.hid (show ¬ (40 < rs.length ∨ 20 < zs.length ∨ 20 < ls.length) by omega)
    go_enter Tryz.func22, Tryz.ntmps22
    go_wp2_with fail
    clear hcs hcz
    go_loopw [30] (fun i wr => ∃ k : Nat, k ≤ rs.length ∧ i = .int .i64 k ∧ Hid (∀ q, q < k → ruEr rs[q]! = 0) ∧ TK w wr #[.slice AR rs.length cR, .slice AZ zs.length cZ, .slice AL ls.length cL]) (fun i _ => rs.length - (intOf i).toNat)
    case atStart => exact ⟨0, Nat.zero_le _, rfl, Lib.hid (fun q h => absurd h (by omega)), HX1.out⟩
    case round =>
     obtain ⟨k, hk, rfl, HQ, hT⟩ := hrel
     have HT := Lib.hid hT
     by_cases hlt : k < rs.length
     ·obtain ⟨b, o, rfl, hb, c0, c1, c2, c3, c4, c5, c6, c7, c8, c9, c10⟩ := ru_at (HRR.out.below hT.2.2) hlt
      have hz := hT.2.1
      have hb' : b < wr.heap.size := by omega
      have hi1 : (0 : Int) ≤ (k : Int) := by omega
      have hi2 : (k : Int) < (rs.length : Int) := by omega
      have hro := HRO.out _ (List.getElem_mem hlt)
      have hro1 := hro.1
      have hro2 := hro.2.1
      have HV := Lib.hid (show ruEr rs[k]! = ruEr rs[k] by rw [get_bang hlt])
      obtain ⟨r, hr⟩ : ∃ r, rs[k] = r := ⟨_, rfl⟩
      rw [hr] at c0 c1 c2 c3 c4 c5 c6 c7 c8 c9 c10 hro1 hro2 HV
      have HC := Lib.hid (u_Check r.name r.letter r.f r.t r.m r.k r.wd r.n r.a r.b r.sv hro1 hro2 (wr.alloc (.cells (ruA r) 70)))
      clear hr hT hro
      obtain ⟨n, hn⟩ : ∃ n, ruleE r.name r.letter r.f r.t r.m r.k r.wd r.n r.a r.b r.sv = n := ⟨_, rfl⟩
      have HV2 := Lib.hid (show ruEr rs[k]! = n by rw [HV.out]; exact hn)
      rw [hn] at HC
      by_cases n0 : n = 0
      ·have hn0 : (n != 0) = false := by rw [n0]; rfl
       have HQ2 := Lib.hid (show ∀ q, q < k + 1 → ruEr rs[q]! = 0 from fun q hq => if h : q < k then HQ.out q h else (by obtain rfl : q = k := (by omega); rw [HV2.out, n0]))
       clear n0 hn HQ HV HV2
       go_wp2_with fail
       refine HC.out.mono ?_
       rintro e w3 ⟨rfl, hb3⟩
       go_wp2_with fail
       exact ⟨⟨k + 1, by omega, by go_num, HQ2, (HT.out.alloc _).step hb3⟩, by simp [intOf]; omega⟩
      ·have hn0 : (n != 0) = true := by rw [bne_iff_ne]; exact n0
       have HE := Lib.hid (bookE_ru HS.out ((firE_at (f := fun j => ruEr rs[j]!) HQ.out (by show ruEr rs[k]! ≠ 0; rw [HV2.out]; exact n0) hlt).trans HV2.out) n0)
       clear n0 hn HQ HV HV2
       go_wp2_with fail
       refine HC.out.mono ?_
       rintro e w3 ⟨rfl, hb3⟩
       go_wp2_with fail
       go_ret
       exact ⟨ret_int HE.out.symm, ((HT.out.alloc _).step hb3).2.2⟩
     ·obtain rfl : k = rs.length := by omega
      have HR0 := Lib.hid (firE_zero (f := fun j => ruEr rs[j]!) HQ.out)
      have hcs := hT.1
      have hcz := hT.2.1
      have hHw := HH.out.step hT.2.2
      have hcs' := fun i => ((Below.refl wr.heap.size wr).alloc (Nat.le_refl _) (.cells #[.slice AR rs.length cR, .slice AZ zs.length cZ, .slice AL ls.length cL] 119)).cell (p := ⟨w.heap.size, i, none⟩) hcz |>.trans (hcs i)
      have HCk := Lib.hid (show CkAt (wr.alloc (.cells #[.slice AR rs.length cR, .slice AZ zs.length cZ, .slice AL ls.length cL] 119)) wr.heap.size ⟨AR, AZ, AL, cR, cZ, cL, rs, zs, ls⟩ from hHw.box 119)
      have HTk := Lib.hid (hT.alloc (.cells #[.slice AR rs.length cR, .slice AZ zs.length cZ, .slice AL ls.length cL] 119))
      obtain ⟨g, hg⟩ : ∃ g, wr.heap.size = g := ⟨_, rfl⟩
      clear hT HQ hHw HT
      go_wp2_with fail
      rw [hg] at HCk
      clear hcs hcz hcs' hg
      go_loopw [46] (fun i wr => ∃ k : Nat, k ≤ zs.length ∧ i = .int .i64 k ∧ Hid (∀ q, q < k → zoE rs zs q = 0) ∧ Hid (CkAt wr g ⟨AR, AZ, AL, cR, cZ, cL, rs, zs, ls⟩) ∧ TK w wr #[.slice AR rs.length cR, .slice AZ zs.length cZ, .slice AL ls.length cL]) (fun i _ => zs.length - (intOf i).toNat)
      case atStart => exact ⟨0, Nat.zero_le _, rfl, Lib.hid (fun q h => absurd h (by omega)), HCk, HTk.out⟩
      case round =>
       clear HCk HTk
       obtain ⟨k, hk, rfl, HQ, HCk, hT⟩ := hrel
       have HT := Lib.hid hT
       have hcs := hT.1
       have hcz := hT.2.1
       clear hT
       by_cases hlt : k < zs.length
       ·have HC := Lib.hid (show Calls Tryz.prog 56 #[.pointer (some ⟨g, 0, none⟩), .int .i64 (k : Int)] wr fun e w' => e = .returned (.int .i64 (zoE rs zs k)) ∧ Below wr.heap.size wr w' from c_zone g ⟨AR, AZ, AL, cR, cZ, cL, rs, zs, ls⟩ k wr HCk.out hlt (HI.on HT.out.2.2))
        obtain ⟨n, hn⟩ : ∃ n, zoE rs zs k = n := ⟨_, rfl⟩
        rw [hn] at HC
        by_cases n0 : n = 0
        ·have hn0 : (n != 0) = false := by rw [n0]; rfl
         have HQ2 := Lib.hid (show ∀ q, q < k + 1 → zoE rs zs q = 0 from fun q hq => if h : q < k then HQ.out q h else (by obtain rfl : q = k := (by omega); rw [hn, n0]))
         clear n0 hn HQ
         go_wp2_with fail
         refine HC.out.mono ?_
         rintro e w3 ⟨rfl, hb3⟩
         go_wp2_with fail
         exact ⟨⟨k + 1, by omega, by go_num, HQ2, Lib.hid (HCk.out.step hb3), HT.out.step hb3⟩, by simp [intOf]; omega⟩
        ·have hn0 : (n != 0) = true := by rw [bne_iff_ne]; exact n0
         have HE := Lib.hid (bookE_zo (ls := ls) HS.out HR0.out ((firE_at HQ.out (by rw [hn]; exact n0) hlt).trans hn) n0)
         clear n0 hn HQ
         go_wp2_with fail
         refine HC.out.mono ?_
         rintro e w3 ⟨rfl, hb3⟩
         go_wp2_with fail
         go_ret
         exact ⟨ret_int HE.out.symm, (HT.out.step hb3).2.2⟩
       ·obtain rfl : k = zs.length := by omega
        have HZ0 := Lib.hid (firE_zero HQ.out)
        clear HQ
        go_wp2_with fail
        clear hcs hcz
        go_loopw [59] (fun i wr => ∃ k : Nat, k ≤ ls.length ∧ i = .int .i64 k ∧ Hid (∀ q, q < k → lkE zs ls q = 0) ∧ Hid (CkAt wr g ⟨AR, AZ, AL, cR, cZ, cL, rs, zs, ls⟩) ∧ TK w wr #[.slice AR rs.length cR, .slice AZ zs.length cZ, .slice AL ls.length cL]) (fun i _ => ls.length - (intOf i).toNat)
        case atStart => exact ⟨0, Nat.zero_le _, rfl, Lib.hid (fun q h => absurd h (by omega)), HCk, HT.out⟩
        case round =>
         clear HCk HT
         obtain ⟨k, hk, rfl, HQ, HCk, hT⟩ := hrel
         have HT := Lib.hid hT
         have hcs := hT.1
         have hcz := hT.2.1
         clear hT
         by_cases hlt : k < ls.length
         ·have HC := Lib.hid (show Calls Tryz.prog 57 #[.pointer (some ⟨g, 0, none⟩), .int .i64 (k : Int)] wr fun e w' => e = .returned (.int .i64 (lkE zs ls k)) ∧ Below wr.heap.size wr w' from c_link g ⟨AR, AZ, AL, cR, cZ, cL, rs, zs, ls⟩ k wr HCk.out hlt)
          obtain ⟨n, hn⟩ : ∃ n, lkE zs ls k = n := ⟨_, rfl⟩
          rw [hn] at HC
          by_cases n0 : n = 0
          ·have hn0 : (n != 0) = false := by rw [n0]; rfl
           have HQ2 := Lib.hid (show ∀ q, q < k + 1 → lkE zs ls q = 0 from fun q hq => if h : q < k then HQ.out q h else (by obtain rfl : q = k := (by omega); rw [hn, n0]))
           clear n0 hn HQ
           go_wp2_with fail
           refine HC.out.mono ?_
           rintro e w3 ⟨rfl, hb3⟩
           go_wp2_with fail
           exact ⟨⟨k + 1, by omega, by go_num, HQ2, Lib.hid (HCk.out.step hb3), HT.out.step hb3⟩, by simp [intOf]; omega⟩
          ·have hn0 : (n != 0) = true := by rw [bne_iff_ne]; exact n0
           have HE := Lib.hid (bookE_lk HS.out HR0.out HZ0.out ((firE_at HQ.out (by rw [hn]; exact n0) hlt).trans hn))
           clear n0 hn HQ
           go_wp2_with fail
           refine HC.out.mono ?_
           rintro e w3 ⟨rfl, hb3⟩
           go_wp2_with fail
           go_ret
           exact ⟨ret_int HE.out.symm, (HT.out.step hb3).2.2⟩
         ·obtain rfl : k = ls.length := by omega
          have HE := Lib.hid (bookE_lk HS.out HR0.out HZ0.out (firE_zero HQ.out))
          clear HQ
          go_wp2_with fail
          go_ret
          exact ⟨ret_int HE.out.symm, HT.out.2.2⟩
end Go.Proofs.YthppifcggmdmoaaGreatDoor

