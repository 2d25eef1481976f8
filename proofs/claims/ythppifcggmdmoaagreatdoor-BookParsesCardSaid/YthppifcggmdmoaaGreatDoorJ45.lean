/- Part 45 of the proof of BookParses: no condition; what its declarations say stands at each. -/
import Derived.Test.YthppifcggmdmoaaGreatDoorJ11
import Derived.Test.YthppifcggmdmoaaGreatDoorJ08
namespace Go.Proofs.YthppifcggmdmoaaGreatDoor
open Go.RowKit
set_option linter.unusedVariables false
theorem KD.step {w W W2 : World} {b b2 p p2 : Nat} {Y1 Y2 : Array Value} {n1 e1 n2 e2 : Value} (h : (∀ i, W.cell? ⟨w.heap.size, i, none⟩ = Y1[i]?) ∧ (∀ i, W.cell? ⟨w.heap.size + 1, i, none⟩ = Y2[i]?) ∧ W.cell? ⟨b, p, none⟩ = some n1 ∧ W.cell? ⟨b, p + 1, none⟩ = some e1 ∧ W.cell? ⟨b2, p2, none⟩ = some n2 ∧ W.cell? ⟨b2, p2 + 1, none⟩ = some e2 ∧ w.heap.size + 1 < W.heap.size ∧ b < W.heap.size ∧ b2 < W.heap.size ∧ Below w.heap.size w W) (hb : Below W.heap.size W W2) :
  (∀ i, W2.cell? ⟨w.heap.size, i, none⟩ = Y1[i]?) ∧ (∀ i, W2.cell? ⟨w.heap.size + 1, i, none⟩ = Y2[i]?) ∧ W2.cell? ⟨b, p, none⟩ = some n1 ∧ W2.cell? ⟨b, p + 1, none⟩ = some e1 ∧ W2.cell? ⟨b2, p2, none⟩ = some n2 ∧ W2.cell? ⟨b2, p2 + 1, none⟩ = some e2 ∧ w.heap.size + 1 < W2.heap.size ∧ b < W2.heap.size ∧ b2 < W2.heap.size ∧ Below w.heap.size w W2 := by
 obtain ⟨a1, a2, a3, a4, a5, a6, a7, a8, a9, a10⟩ := h
 have hz := hb.size
 exact ⟨fun i => (hb.cell (p := ⟨w.heap.size, i, none⟩) (by show w.heap.size < _; omega)).trans (a1 i), fun i => (hb.cell (p := ⟨w.heap.size + 1, i, none⟩) (by show w.heap.size + 1 < _; omega)).trans (a2 i), (hb.cell (p := ⟨b, p, none⟩) a8).trans a3, (hb.cell (p := ⟨b, p + 1, none⟩) a8).trans a4, (hb.cell (p := ⟨b2, p2, none⟩) a9).trans a5, (hb.cell (p := ⟨b2, p2 + 1, none⟩) a9).trans a6, by omega, by omega, by omega, a10.trans (hb.mono a10.size)⟩
theorem KS.step {w W W2 : World} {Y1 Y2 : Array Value} (h : (∀ i, W.cell? ⟨w.heap.size, i, none⟩ = Y1[i]?) ∧ (∀ i, W.cell? ⟨w.heap.size + 1, i, none⟩ = Y2[i]?) ∧ w.heap.size + 1 < W.heap.size ∧ Below w.heap.size w W) (hb : Below W.heap.size W W2) :
  (∀ i, W2.cell? ⟨w.heap.size, i, none⟩ = Y1[i]?) ∧ (∀ i, W2.cell? ⟨w.heap.size + 1, i, none⟩ = Y2[i]?) ∧ w.heap.size + 1 < W2.heap.size ∧ Below w.heap.size w W2 := by
 obtain ⟨a1, a2, a7, a10⟩ := h
 have hz := hb.size
 exact ⟨fun i => (hb.cell (p := ⟨w.heap.size, i, none⟩) (by show w.heap.size < _; omega)).trans (a1 i), fun i => (hb.cell (p := ⟨w.heap.size + 1, i, none⟩) (by show w.heap.size + 1 < _; omega)).trans (a2 i), by omega, a10.trans (hb.mono a10.size)⟩
set_option maxRecDepth 100000 in
set_option maxHeartbeats 4000000 in
theorem r_EqLk (A C : Option Addr) (ca cc : Nat) (rs : List LkT) (w : World) (hA : SlAt w w.heap.size 2 A (rs.map lkC)) (hC : SlAt w w.heap.size 2 C (rs.map lkC)) (h1 : rs.length ≤ ca) (h2 : rs.length ≤ cc) (m1 : ca ≤ maxLen) (m2 : cc ≤ maxLen) :
  Calls Tryz.prog 34 #[.slice A rs.length ca, .slice C rs.length cc] w fun e w' => e = .returned (.bool true) ∧ Below w.heap.size w w' := by
 unfold maxLen at m1 m2
 go_enter Tryz.func34, Tryz.ntmps34
 go_wp2_with fail
 go_loopw [14] (fun i wr => ∃ k : Nat, k ≤ rs.length ∧ i = .int .i64 k ∧ Below w.heap.size w wr) (fun i _ => rs.length - (intOf i).toNat)
 case atStart => exact ⟨0, Nat.zero_le _, rfl, Below.refl _ _⟩
 case round =>
  obtain ⟨k, hk, rfl, hB⟩ := hrel
  by_cases hlt : k < rs.length
  ·obtain ⟨b, o, rfl, hb, c0, c1⟩ := lk_at (hA.below hB) hlt
   obtain ⟨b2, o2, rfl, hb2, d0, d1⟩ := lk_at (hC.below hB) hlt
   have hz := hB.size
   have hb' : b < wr.heap.size := by omega
   have hb2' : b2 < wr.heap.size := by omega
   have hi1 : (0 : Int) ≤ (k : Int) := by omega
   have hi2 : (k : Int) < (rs.length : Int) := by omega
   obtain ⟨x, hx⟩ : ∃ x, rs[k] = x := ⟨_, rfl⟩
   rw [hx] at c0 c1 d0 d1
   clear hx
   go_wp2_with fail
   go_quiet (fail)
   go_wp2_with fail
   exact ⟨⟨k + 1, by omega, by go_num, below_drewN (hB.alloc hz _) _⟩, by simp [intOf]; omega⟩
  ·obtain rfl : k = rs.length := by omega
   go_wp2_with fail
   go_ret
   exact ⟨rfl, hB⟩
set_option maxRecDepth 100000 in
set_option maxHeartbeats 2000000 in
theorem r_ZoneEqB (nm : ByteArray) (A C : Option Addr) (ca cc : Nat) (ers : List ErT) (w : World) (hA : SlAt w w.heap.size 5 A (ers.map erC)) (hC : SlAt w w.heap.size 5 C (ers.map erC)) (h1 : ers.length ≤ ca) (h2 : ers.length ≤ cc) (m1 : ca ≤ maxLen) (m2 : cc ≤ maxLen) :
  Calls Tryz.prog 35 #[.agg #[.string nm, .slice A ers.length ca], .agg #[.string nm, .slice C ers.length cc]] w fun e w' => e = .returned (.bool true) ∧ Below w.heap.size w w' := by
 obtain ⟨q1, q2, _, q5, hb0⟩ := boxes2 w #[.string nm, .slice A ers.length ca] #[.string nm, .slice C ers.length cc] 75 75
 have hE := Lib.hid (r_EqEra A C ca cc ers _ ((hA.below hb0).more hb0.size) ((hC.below hb0).more hb0.size) h1 h2 m1 m2)
 have HB := Lib.hid hb0
 clear q1 q2 q5 hb0 hA hC
 go_enter Tryz.func35, Tryz.ntmps35
 go_wp2_with fail
 refine (show Calls Tryz.prog _ _ _ _ from hE.out).mono ?_
 rintro e w1 ⟨rfl, hb⟩
 go_wp2_with fail
 go_ret
 exact ⟨rfl, HB.out.trans (hb.mono HB.out.size)⟩
attribute [local go_sem ↓] Go.wp_at_zero Go.wp_at_succ
set_option maxRecDepth 100000 in
set_option maxHeartbeats 8000000 in
theorem r_BookEqB (AR AZ AL AR2 AZ2 AL2 : Option Addr) (cR cZ cL cR2 cZ2 cL2 : Nat) (rs : List RuT) (zs zs2 : List ZoT) (ls : List LkT) (w : World) (H1 : BkOk w w.heap.size ⟨AR, AZ, AL, cR, cZ, cL, rs, zs, ls⟩) (H2 : BkOk w w.heap.size ⟨AR2, AZ2, AL2, cR2, cZ2, cL2, rs, zs2, ls⟩) (hz : zs.map zoP = zs2.map zoP) (n : Nat) (hn : zs.length = n) :
  Calls Tryz.prog 9 #[.agg #[.slice AR rs.length cR, .slice AZ n cZ, .slice AL ls.length cL], .agg #[.slice AR2 rs.length cR2, .slice AZ2 n cZ2, .slice AL2 ls.length cL2]] w fun e w' => e = .returned (.bool true) ∧ Below w.heap.size w w' := by
 obtain ⟨q1, q2, q4, q5, hb0⟩ := boxes2 w #[.slice AR rs.length cR, .slice AZ n cZ, .slice AL ls.length cL] #[.slice AR2 rs.length cR2, .slice AZ2 n cZ2, .slice AL2 ls.length cL2] 26 26
 have hlen : zs2.length = zs.length := by have := congrArg List.length hz; simpa using this.symm
 have n1 := H1.hZ; have n2 := H2.hZ; have n3 := H1.mZ; have n4 := H2.mZ
 simp only at n1 n2 n3 n4
 rw [hlen] at n2
 rw [hn] at n1 n2
 have hK : (∀ i, ((w.alloc (.cells #[.slice AR rs.length cR, .slice AZ n cZ, .slice AL ls.length cL] 26)).alloc (.cells #[.slice AR2 rs.length cR2, .slice AZ2 n cZ2, .slice AL2 ls.length cL2] 26)).cell? ⟨w.heap.size, i, none⟩ = (#[.slice AR rs.length cR, .slice AZ n cZ, .slice AL ls.length cL] : Array Value)[i]?) ∧ (∀ i, ((w.alloc (.cells #[.slice AR rs.length cR, .slice AZ n cZ, .slice AL ls.length cL] 26)).alloc (.cells #[.slice AR2 rs.length cR2, .slice AZ2 n cZ2, .slice AL2 ls.length cL2] 26)).cell? ⟨w.heap.size + 1, i, none⟩ = (#[.slice AR2 rs.length cR2, .slice AZ2 n cZ2, .slice AL2 ls.length cL2] : Array Value)[i]?) ∧ w.heap.size + 1 < ((w.alloc (.cells #[.slice AR rs.length cR, .slice AZ n cZ, .slice AL ls.length cL] 26)).alloc (.cells #[.slice AR2 rs.length cR2, .slice AZ2 n cZ2, .slice AL2 ls.length cL2] 26)).heap.size ∧ Below w.heap.size w ((w.alloc (.cells #[.slice AR rs.length cR, .slice AZ n cZ, .slice AL ls.length cL] 26)).alloc (.cells #[.slice AR2 rs.length cR2, .slice AZ2 n cZ2, .slice AL2 ls.length cL2] 26)) := ⟨q1, q2, by rw [q5]; omega, hb0⟩
 have HR := Lib.hid (r_EqRule AR AR2 cR cR2 rs _ ((H1.R.below hb0).more hb0.size) ((H2.R.below hb0).more hb0.size) H1.hR H2.hR H1.mR H2.mR)
 have HL := Lib.hid (fun W (hb : Below w.heap.size w W) => r_EqLk AL AL2 cL cL2 ls W ((H1.L.below hb).more hb.size) ((H2.L.below hb).more hb.size) H1.hL H2.hL H1.mL H2.mL)
 have HK := Lib.hid hK
 have HA := Lib.hid H1
 have HB := Lib.hid H2
 have HZ := Lib.hid hz
 unfold maxLen at n3 n4
 have HN := Lib.hid hn
 have HN2 := Lib.hid (hlen.trans hn)
 clear q1 q2 q4 q5 hb0 hK H1 H2 hz hn hlen
 obtain ⟨V0, hV0⟩ : ∃ V, (w.alloc (.cells #[.slice AR rs.length cR, .slice AZ n cZ, .slice AL ls.length cL] 26)).alloc (.cells #[.slice AR2 rs.length cR2, .slice AZ2 n cZ2, .slice AL2 ls.length cL2] 26) = V := ⟨_, rfl⟩
 rw [hV0] at HK HR
 have hs1 := HK.out.1
 have hs2 := HK.out.2.1
 have hs3 := HK.out.2.2.1
 go_enter Tryz.func9, Tryz.ntmps9
 go_wp2_with fail
 refine (show Calls Tryz.prog _ _ _ _ from HR.out).mono ?_
 rintro e w1 ⟨rfl, hb⟩
 clear hV0 hs1 hs2 hs3
 have hS := KS.step HK.out hb
 clear hb HR HK
 have hs1 := hS.1
 have hs2 := hS.2.1
 have hs3 := hS.2.2.1
 go_wp2_with fail
 refine (HL.out _ hS.2.2.2).mono ?_
 rintro e w2 ⟨rfl, hb⟩
 have hS2 := KS.step hS hb
 clear hs1 hs2 hs3 hS hb HL
 have hs1 := hS2.1
 have hs2 := hS2.2.1
 have hs3 := hS2.2.2.1
 go_wp2_with fail
 clear hs1 hs2 hs3
 go_loopw [32] (fun i wr => ∃ k : Nat, k ≤ n ∧ i = .int .i64 k ∧ ((∀ i, wr.cell? ⟨w.heap.size, i, none⟩ = (#[.slice AR rs.length cR, .slice AZ n cZ, .slice AL ls.length cL] : Array Value)[i]?) ∧ (∀ i, wr.cell? ⟨w.heap.size + 1, i, none⟩ = (#[.slice AR2 rs.length cR2, .slice AZ2 n cZ2, .slice AL2 ls.length cL2] : Array Value)[i]?) ∧ w.heap.size + 1 < wr.heap.size ∧ Below w.heap.size w wr)) (fun i _ => n - (intOf i).toNat)
 case atStart => exact ⟨0, Nat.zero_le _, rfl, hS2⟩
 case round =>
  clear hS2
  obtain ⟨k, hk, rfl, hS⟩ := hrel
  obtain ⟨hs1, hs2, hs3, hs4⟩ := hS
  by_cases hlt0 : k < n
  ·have hlt : k < zs.length := by have := HN.out; omega
   have hlt2 : k < zs2.length := by have := HN2.out; omega
   obtain ⟨b, o, rfl, hb, c0, c1⟩ := zo_at (HA.out.Z.below hs4) hlt
   obtain ⟨b2, o2, rfl, hb2, d0, d1⟩ := zo_at (HB.out.Z.below hs4) hlt2
   have hzz := hs4.size
   have hb' : b < wr.heap.size := by omega
   have hb2' : b2 < wr.heap.size := by omega
   have hi1 : (0 : Int) ≤ (k : Int) := by omega
   have hi2 : (k : Int) < (n : Int) := by omega
   have z1 := HA.out.zs zs[k] (List.getElem_mem hlt)
   have z2 := HB.out.zs zs2[k] (List.getElem_mem hlt2)
   have hp : zoP zs[k] = zoP zs2[k] := by have h := bang_map HZ.out k; rw [get_bang hlt, get_bang hlt2] at h; exact h
   obtain ⟨⟨nm, E, ce, ers⟩, hx⟩ : ∃ x, zs[k] = x := ⟨_, rfl⟩
   obtain ⟨⟨nm2, E2, ce2, ers2⟩, hx2⟩ : ∃ x, zs2[k] = x := ⟨_, rfl⟩
   rw [hx] at c0 c1 z1 hp
   rw [hx2] at d0 d1 z2 hp
   unfold zoP at hp
   simp only [Prod.mk.injEq] at hp
   obtain ⟨p1, p2⟩ := hp
   subst p1 p2
   simp only at c0 c1 d0 d1
   obtain ⟨_, za, zb, zc, _⟩ := z1
   obtain ⟨_, ya, yb, yc, _⟩ := z2
   have HZE := Lib.hid (fun W (hb : Below w.heap.size w W) => r_ZoneEqB nm E E2 ce ce2 ers W ((za.below hb).more hb.size) ((ya.below hb).more hb.size) zb yb zc yc)
   clear hx hx2 za zb zc ya yb yc hlt hlt2
   have hS : (∀ i, wr.cell? ⟨w.heap.size, i, none⟩ = (#[.slice AR rs.length cR, .slice (some ⟨b, o, none⟩) n cZ, .slice AL ls.length cL] : Array Value)[i]?) ∧ (∀ i, wr.cell? ⟨w.heap.size + 1, i, none⟩ = (#[.slice AR2 rs.length cR2, .slice (some ⟨b2, o2, none⟩) n cZ2, .slice AL2 ls.length cL2] : Array Value)[i]?) ∧ wr.cell? ⟨b, o + k * 2, none⟩ = some (.string nm) ∧ wr.cell? ⟨b, o + k * 2 + 1, none⟩ = some (.slice E ers.length ce) ∧ wr.cell? ⟨b2, o2 + k * 2, none⟩ = some (.string nm) ∧ wr.cell? ⟨b2, o2 + k * 2 + 1, none⟩ = some (.slice E2 ers.length ce2) ∧ w.heap.size + 1 < wr.heap.size ∧ b < wr.heap.size ∧ b2 < wr.heap.size ∧ Below w.heap.size w wr := ⟨hs1, hs2, c0, c1, d0, d1, hs3, hb', hb2', hs4⟩
   clear hs1 hs2 c0 c1 d0 d1 hs3 hb' hb2' hs4 hzz hb hb2
   have hs1 := hS.1
   have hs2 := hS.2.1
   have hs3 := hS.2.2.2.2.2.2.1
   go_wp2_with fail
   clear hs1 hs2 hs3
   go_region_held3 (fun w' => (∀ i, w'.cell? ⟨w.heap.size, i, none⟩ = (#[.slice AR rs.length cR, .slice (some ⟨b, o, none⟩) n cZ, .slice AL ls.length cL] : Array Value)[i]?) ∧ (∀ i, w'.cell? ⟨w.heap.size + 1, i, none⟩ = (#[.slice AR2 rs.length cR2, .slice (some ⟨b2, o2, none⟩) n cZ2, .slice AL2 ls.length cL2] : Array Value)[i]?) ∧ w'.cell? ⟨b, o + k * 2, none⟩ = some (.string nm) ∧ w'.cell? ⟨b, o + k * 2 + 1, none⟩ = some (.slice E ers.length ce) ∧ w'.cell? ⟨b2, o2 + k * 2, none⟩ = some (.string nm) ∧ w'.cell? ⟨b2, o2 + k * 2 + 1, none⟩ = some (.slice E2 ers.length ce2) ∧ w.heap.size + 1 < w'.heap.size ∧ b < w'.heap.size ∧ b2 < w'.heap.size ∧ Below w.heap.size w w')
    (first | exact KD.step hS (Below.refl _ _).drew | assumption | exact KD.step (by assumption) (by assumption))
    (first | (go_at_call 35; refine (HZE.out _ ?_).mono ?_; (first | exact hS.2.2.2.2.2.2.2.2.2.drew | assumption | exact (show Below w.heap.size w _ from (by assumption : (∀ i, _.cell? ⟨w.heap.size, i, none⟩ = (#[.slice AR rs.length cR, .slice (some ⟨b, o, none⟩) n cZ, .slice AL ls.length cL] : Array Value)[i]?) ∧ (∀ i, _.cell? ⟨w.heap.size + 1, i, none⟩ = (#[.slice AR2 rs.length cR2, .slice (some ⟨b2, o2, none⟩) n cZ2, .slice AL2 ls.length cL2] : Array Value)[i]?) ∧ _.cell? ⟨b, o + k * 2, none⟩ = some (.string nm) ∧ _.cell? ⟨b, o + k * 2 + 1, none⟩ = some (.slice E ers.length ce) ∧ _.cell? ⟨b2, o2 + k * 2, none⟩ = some (.string nm) ∧ _.cell? ⟨b2, o2 + k * 2 + 1, none⟩ = some (.slice E2 ers.length ce2) ∧ w.heap.size + 1 < _.heap.size ∧ b < _.heap.size ∧ b2 < _.heap.size ∧ Below w.heap.size w _).2.2.2.2.2.2.2.2.2)); rintro e w5 ⟨rfl, hb5⟩))
   rename_i hG
   go_wp2_with fail
   exact ⟨⟨k + 1, by omega, by go_num, hG.1, hG.2.1, hG.2.2.2.2.2.2.1, hG.2.2.2.2.2.2.2.2.2⟩, by simp [intOf]; omega⟩
  ·obtain rfl : k = n := by omega
   go_wp2_with fail
   go_ret
   exact ⟨rfl, hs4⟩
end Go.Proofs.YthppifcggmdmoaaGreatDoor

