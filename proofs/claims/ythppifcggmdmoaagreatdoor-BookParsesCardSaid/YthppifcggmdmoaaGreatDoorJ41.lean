/- Part 41 of the proof of BookParses: no condition; what its declarations say stands at each. -/
import Derived.Test.YthppifcggmdmoaaGreatDoorJ12
import Derived.Test.YthppifcggmdmoaaGreatDoorJ17
import Derived.Deep.AppendLies
import Derived.Test.YthppifcggmdmoaaGreatDoorJ40
import Derived.Test.YthppifcggmdmoaaGreatDoorJ30
namespace Go.Proofs.YthppifcggmdmoaaGreatDoor
open Go.RowKit
set_option linter.unusedVariables false
attribute [local go_sem ↓] Go.wp_at_zero Go.wp_at_succ

set_option maxRecDepth 100000 in
set_option maxHeartbeats 1000000 in
theorem r_zoneAt (A : Option Addr) (cap : Nat) (zs : List ZoT) (n : Nat) (nm : ByteArray) (w : World) (hn : zs.length = n) (hA : SlAt w w.heap.size 2 A (zs.map zoC)) (h1 : n ≤ cap) (m1 : cap ≤ maxLen) :
  Calls Tryz.prog 66 #[.slice A n cap, .string nm] w fun e w' => e = .returned (.int .i64 (idxOfF (fun z => sEq z.name nm) zs 0)) ∧ Below w.heap.size w w' := by
 subst hn
 unfold maxLen at m1
 go_enter Tryz.func66, Tryz.ntmps66
 go_wp2_with fail
 go_loopw [9] (fun i wr => ∃ k : Nat, k ≤ zs.length ∧ i = .int .i64 k ∧ Hid (∀ j (hj : j < zs.length), j < k → (fun z : ZoT => sEq z.name nm) zs[j] = false) ∧ Below w.heap.size w wr) (fun i _ => zs.length - (intOf i).toNat)
 case atStart => exact ⟨0, Nat.zero_le _, rfl, Lib.hid (fun j hj h => absurd h (by omega)), Below.refl _ _⟩
 case round =>
  obtain ⟨k, hk, rfl, HN, hB⟩ := hrel
  by_cases hlt : k < zs.length
  ·obtain ⟨b, o, rfl, hb, c0, c1⟩ := zo_at (hA.below hB) hlt
   have hz := hB.size
   have hb' : b < wr.heap.size := by omega
   have hi1 : (0 : Int) ≤ (k : Int) := by omega
   have hi2 : (k : Int) < (zs.length : Int) := by omega
   have HE := Lib.hid (fun (h : sEq zs[k].name nm = true) => idxOfF_at (p := fun z : ZoT => sEq z.name nm) hlt 0 HN.out h)
   have HG := Lib.hid (fun (h : sEq zs[k].name nm = false) j (hj : j < zs.length) (h2 : j < k + 1) => (if h3 : j < k then HN.out j hj h3 else (by obtain rfl : j = k := (by omega); exact h) : (fun z : ZoT => sEq z.name nm) zs[j] = false))
   obtain ⟨x, hx⟩ : ∃ x, zs[k] = x := ⟨_, rfl⟩
   simp only [hx] at c0 c1 HE HG
   have HB := Lib.hid (hB.alloc (o := .cells #[.string x.name, .slice x.A x.eras.length x.cap] 75) hB.size)
   have hq : (x.name.toList == nm.toList) = sEq x.name nm := rfl
   clear hx HN
   cases hs : sEq x.name nm with
   | true =>
    rw [hs] at hq
    have HE2 := Lib.hid (HE.out hs)
    clear HE HG hs
    go_wp2_with fail
    go_ret
    exact ⟨ret_int (by rw [HE2.out]; omega), HB.out⟩
   | false =>
    rw [hs] at hq
    have HE2 := Lib.hid (HG.out hs)
    clear HE HG hs
    go_wp2_with fail
    exact ⟨⟨k + 1, by omega, by go_num, Lib.hid HE2.out, HB.out⟩, by simp [intOf]; omega⟩
  ·obtain rfl : k = zs.length := by omega
   have HE := Lib.hid (idxOfF_none (p := fun z : ZoT => sEq z.name nm) 0 (fun j hj => HN.out j hj hj))
   clear HN
   go_wp2_with fail
   go_ret
   exact ⟨ret_int HE.out.symm, hB⟩

set_option maxRecDepth 100000 in
set_option maxHeartbeats 1000000 in
theorem r_linkAt (A : Option Addr) (cap : Nat) (zs : List LkT) (n : Nat) (nm : ByteArray) (w : World) (hn : zs.length = n) (hA : SlAt w w.heap.size 2 A (zs.map lkC)) (h1 : n ≤ cap) (m1 : cap ≤ maxLen) :
  Calls Tryz.prog 68 #[.slice A n cap, .string nm] w fun e w' => e = .returned (.int .i64 (idxOfF (fun z => sEq z.1 nm) zs 0)) ∧ Below w.heap.size w w' := by
 subst hn
 unfold maxLen at m1
 go_enter Tryz.func68, Tryz.ntmps68
 go_wp2_with fail
 go_loopw [9] (fun i wr => ∃ k : Nat, k ≤ zs.length ∧ i = .int .i64 k ∧ Hid (∀ j (hj : j < zs.length), j < k → (fun z : LkT => sEq z.1 nm) zs[j] = false) ∧ Below w.heap.size w wr) (fun i _ => zs.length - (intOf i).toNat)
 case atStart => exact ⟨0, Nat.zero_le _, rfl, Lib.hid (fun j hj h => absurd h (by omega)), Below.refl _ _⟩
 case round =>
  obtain ⟨k, hk, rfl, HN, hB⟩ := hrel
  by_cases hlt : k < zs.length
  ·obtain ⟨b, o, rfl, hb, c0, c1⟩ := lk_at (hA.below hB) hlt
   have hz := hB.size
   have hb' : b < wr.heap.size := by omega
   have hi1 : (0 : Int) ≤ (k : Int) := by omega
   have hi2 : (k : Int) < (zs.length : Int) := by omega
   have HE := Lib.hid (fun (h : sEq zs[k].1 nm = true) => idxOfF_at (p := fun z : LkT => sEq z.1 nm) hlt 0 HN.out h)
   have HG := Lib.hid (fun (h : sEq zs[k].1 nm = false) j (hj : j < zs.length) (h2 : j < k + 1) => (if h3 : j < k then HN.out j hj h3 else (by obtain rfl : j = k := (by omega); exact h) : (fun z : LkT => sEq z.1 nm) zs[j] = false))
   obtain ⟨x, hx⟩ : ∃ x, zs[k] = x := ⟨_, rfl⟩
   simp only [hx] at c0 c1 HE HG
   have HB := Lib.hid (hB.alloc (o := .cells #[.string x.1, .string x.2] 77) hB.size)
   have hq : (x.1.toList == nm.toList) = sEq x.1 nm := rfl
   clear hx HN
   cases hs : sEq x.1 nm with
   | true =>
    rw [hs] at hq
    have HE2 := Lib.hid (HE.out hs)
    clear HE HG hs
    go_wp2_with fail
    go_ret
    exact ⟨ret_int (by rw [HE2.out]; omega), HB.out⟩
   | false =>
    rw [hs] at hq
    have HE2 := Lib.hid (HG.out hs)
    clear HE HG hs
    go_wp2_with fail
    exact ⟨⟨k + 1, by omega, by go_num, Lib.hid HE2.out, HB.out⟩, by simp [intOf]; omega⟩
  ·obtain rfl : k = zs.length := by omega
   have HE := Lib.hid (idxOfF_none (p := fun z : LkT => sEq z.1 nm) 0 (fun j hj => HN.out j hj hj))
   clear HN
   go_wp2_with fail
   go_ret
   exact ⟨ret_int HE.out.symm, hB⟩

theorem info_Rule : (Tryz.prog.info? 70).map (fun i => (i.zero, i.size, i.bytes)) = some (some (.agg #[.string ⟨#[]⟩, .int .i64 0, .int .i64 0, .int .i64 0, .int .i64 0, .int .i64 0, .int .i64 0, .int .i64 0, .int .i64 0, .int .i64 0, .string ⟨#[]⟩]), 11, 104) := by kernel_rfl
def fil (rs : List RuT) (nm : ByteArray) : List RuT := rs.filter fun r => sEq r.name nm
theorem fil_succ {rs : List RuT} {nm : ByteArray} {k : Nat} (h : k < rs.length) : fil (rs.take (k + 1)) nm = fil (rs.take k) nm ++ if sEq rs[k].name nm = true then [rs[k]] else [] := by
 unfold fil; rw [List.take_succ_eq_append_getElem h, List.filter_append]
 congr 1
 cases hq : sEq rs[k].name nm <;> simp [hq]
theorem fil_len (rs : List RuT) (nm : ByteArray) (k : Nat) : (fil (rs.take k) nm).length ≤ k := by
 unfold fil
 have := List.length_filter_le (fun r : RuT => sEq r.name nm) (rs.take k)
 rw [List.length_take] at this; omega
set_option maxRecDepth 100000 in
set_option maxHeartbeats 2000000 in
theorem r_rulesOf (AR AZ AL : Option Addr) (cR cZ cL nZ nL : Nat) (rs : List RuT) (nm : ByteArray) (w : World) (hA : SlAt w w.heap.size 11 AR (rs.map ruC)) (h1 : rs.length ≤ cR) (m1 : cR ≤ maxLen) (h40 : rs.length ≤ 40) :
  Calls Tryz.prog 118 #[.agg #[.slice AR rs.length cR, .slice AZ nZ cZ, .slice AL nL cL], .string nm] w fun e w' => ∃ v, e = .returned v ∧ w'.ownsRow w.heap.size 70 11 v (fil rs nm).length ((fil rs nm).map ruC).flatten ∧ Below w.heap.size w w' := by
 unfold maxLen at m1
 obtain ⟨i0, hi0, hz0, hz1, hz2⟩ := info_parts info_Rule
 have X1 := TK.box w #[.slice AR rs.length cR, .slice AZ nZ cZ, .slice AL nL cL] 26
 have hcs := X1.1
 have HB0 := Lib.hid X1.2.2
 clear X1
 go_enter Tryz.func118, Tryz.ntmps118
 go_wp2_with fail
 clear hcs
 go_loopw [5, 11] (fun v i wr => ∃ k : Nat, k ≤ rs.length ∧ i = .int .i64 k ∧ Hid (wr.ownsRow w.heap.size 70 11 v (fil (rs.take k) nm).length ((fil (rs.take k) nm).map ruC).flatten) ∧ Below w.heap.size w wr) (fun _ i _ => rs.length - (intOf i).toNat)
 case atStart => exact ⟨0, Nat.zero_le _, rfl, Lib.hid (World.ownsRow_nil _ _ _ _), HB0.out⟩
 case round =>
  obtain ⟨k, hk, rfl, HO, hB⟩ := hrel
  by_cases hlt : k < rs.length
  ·obtain ⟨b, o, rfl, hb, c0, c1, c2, c3, c4, c5, c6, c7, c8, c9, c10⟩ := ru_at (hA.below hB) hlt
   have hz := hB.size
   have hb' : b < wr.heap.size := by omega
   have hi1 : (0 : Int) ≤ (k : Int) := by omega
   have hi2 : (k : Int) < (rs.length : Int) := by omega
   have HF := Lib.hid (fil_succ (nm := nm) hlt)
   obtain ⟨r, hr⟩ : ∃ r, rs[k] = r := ⟨_, rfl⟩
   rw [hr] at c0 c1 c2 c3 c4 c5 c6 c7 c8 c9 c10 HF
   have HB := Lib.hid (hB.alloc (o := .cells (ruA r) 70) hB.size)
   have hq : (r.name.toList == nm.toList) = sEq r.name nm := rfl
   have hfl := fil_len rs nm k
   obtain ⟨F, hF⟩ : ∃ F, fil (rs.take k) nm = F := ⟨_, rfl⟩
   rw [hF] at HO HF hfl
   clear hr hF
   cases hs : sEq r.name nm with
   | true =>
    rw [hs] at hq
    have HF2 := Lib.hid (show fil (rs.take (k + 1)) nm = F ++ [r] by rw [HF.out, hs]; rfl)
    clear hs HF
    have kr := (Blk.new wr (ruA r) 70).cell
    go_wp2_with (at_builtin; refine wpList_append_lies _ rfl _ _ _ rfl w.heap.size 70 i0 _ 11 104 Tryz.underlying22 hi0 hz0 hz1 hz2 rfl (by omega) u5 F.length _ rfl ((HO.out.alloc (.cells (ruA r) 70)).alloc _) ⟨wr.heap.size + 1, 0, none⟩ 1 1 (ruC r) rfl rfl (World.news_of_block (cs := (ruC r).toArray) (t := 70) (fr := (0, 0)) (Blk.new' _ _ _ (by simp))) (by simp [Value.oneCell', ruC]) (by omega) (by unfold maxLen; omega) (by omega) (by simp; omega) (wr.heap.size + 2) (by simp) ?_; intro gg cap2 w9 hown1 hgrow hat hlt9)
    have HB9 := Lib.hid ((HB.out.alloc (o := .cells (ruA r) 70) HB.out.size).trans (below_app (by simp; omega) ((HO.out.alloc (.cells (ruA r) 70)).alloc (.cells (ruA r) 70)) hgrow))
    have hO9 : w9.ownsRow w.heap.size 70 11 (.slice (some ⟨gg, 0, none⟩) (F.length + 1) cap2) (F ++ [r]).length ((F ++ [r]).map ruC).flatten := by
     have e1 : (F ++ [r]).length = F.length + 1 := by simp
     have e2 : ((F ++ [r]).map ruC).flatten = (F.map ruC).flatten ++ ruC r := by simp
     rw [e1, e2]; exact hown1
    exact ⟨⟨k + 1, by omega, by go_num, Lib.hid (by rw [HF2.out]; exact hO9), HB9.out⟩, by simp [intOf]; omega⟩
   | false =>
    rw [hs] at hq
    have HF2 := Lib.hid (show fil (rs.take (k + 1)) nm = F by rw [HF.out, hs]; simp)
    clear hs HF
    go_wp2_with fail
    exact ⟨⟨k + 1, by omega, by go_num, Lib.hid (by rw [HF2.out]; exact HO.out.alloc _), HB.out⟩, by simp [intOf]; omega⟩
  ·obtain rfl : k = rs.length := by omega
   rw [List.take_length] at HO
   go_wp2_with fail
   go_ret
   exact ⟨_, rfl, HO.out, hB⟩
end Go.Proofs.YthppifcggmdmoaaGreatDoor
namespace Go.Proofs.YthppifcggmdmoaaGreatDoor
set_option linter.unusedVariables false
def fE (F : ByteArray) (G : List RuT) : Int := firE (fun j => abE F G[j]!.sv G[j]!.letter) G.length
theorem firE_congr {f g : Nat → Int} : ∀ {n : Nat}, (∀ j, j < n → f j = g j) → firE f n = firE g n
 | 0, _ => rfl
 | n + 1, h => by rw [firE, firE, firE_congr (fun j hj => h j (by omega)), h n (by omega)]
theorem fE_snoc (F : ByteArray) (G : List RuT) (r : RuT) : fE F (G ++ [r]) = if fE F G = 0 then abE F r.sv r.letter else fE F G := by
 have hl : (G ++ [r]).length = G.length + 1 := by simp
 have h1 : firE (fun j => abE F (G ++ [r])[j]!.sv (G ++ [r])[j]!.letter) G.length = fE F G := firE_congr (fun j hj => by
  have e : (G ++ [r])[j]! = G[j]! := by rw [get_bang (by rw [hl]; omega), get_bang hj, List.getElem_append_left hj]
  rw [e])
 have h2 : (G ++ [r])[G.length]! = r := by rw [get_bang (by rw [hl]; omega)]; simp
 unfold fE at h1 ⊢
 rw [hl, firE, h1, h2]
theorem fE_fil (x : ErT) (rs : List RuT) : ∀ {k : Nat}, k ≤ rs.length → firE (fun j => arE x rs[j]!) k = fE x.format (fil (rs.take k) x.rules)
 | 0, _ => by simp [firE, fE, fil]
 | k + 1, h => by
  have ih := fE_fil x rs (show k ≤ rs.length by omega)
  rw [firE, ih, fil_succ (show k < rs.length by omega), get_bang (show k < rs.length by omega), arE]
  by_cases hs : sEq rs[k].name x.rules = true
  ·rw [if_pos hs, if_pos hs, fE_snoc]
  ·rw [if_neg hs, if_neg hs, List.append_nil]
   by_cases h0 : fE x.format (fil (rs.take k) x.rules) = 0
   ·rw [if_pos h0, h0]
   ·rw [if_neg h0]
def dR : RuT := ⟨eMT, 0, 0, 0, 0, 0, 0, 0, 0, 0, dASH⟩
theorem absE_fil {x : ErT} {rs : List RuT} (h : sEq x.rules eMT = false) : absE rs x = fE x.format (fil rs x.rules ++ [dR]) := by
 have hf := fE_fil x rs (Nat.le_refl rs.length)
 rw [List.take_length] at hf
 rw [absE, if_neg (by rw [h]; exact Bool.false_ne_true), hf, fE_snoc]
 rfl
theorem fil_has (rs : List RuT) (nm : ByteArray) : hasR rs nm = decide (0 < (fil rs nm).length) := by
 unfold hasR fil
 induction rs with
 | nil => rfl
 | cons r l ih =>
  rw [List.any_cons, ih, List.filter_cons]
  by_cases h : sEq r.name nm = true
  ·rw [if_pos h, h]; simp
  ·rw [if_neg h]; simp [h]
end Go.Proofs.YthppifcggmdmoaaGreatDoor
namespace Go.Proofs.YthppifcggmdmoaaGreatDoor
open Go.RowKit
set_option linter.unusedVariables false
attribute [local go_sem ↓] Go.wp_at_zero Go.wp_at_succ
theorem time_st (t : Int) : (stE t = 0 ↔ isTimeB t = true) := by
 unfold stE isTimeB dateOk
 constructor
 ·intro h
  split at h
  ·rename_i hd
   simp at hd ⊢; omega
  ·omega
 ·intro h
  rw [if_pos (by simp at h ⊢; omega)]
theorem letter_ok {rs : List RuT} (h : ∀ r ∈ rs, ruOk r) (nm : ByteArray) : ∀ r ∈ fil rs nm ++ [dR], r.letter.size ≤ maxLen := by
 intro r hr
 rcases List.mem_append.1 hr with hr | hr
 ·exact (h r (List.mem_filter.1 hr).1).2.1
 ·simp at hr; rw [hr]; exact dash_sz
set_option maxRecDepth 100000 in
set_option maxHeartbeats 8000000 in
theorem r_eraCheck (AR AZ AL A : Option Addr) (cR cZ cL nZ nL cap : Nat) (rs : List RuT) (l : List ErT) (k : Nat) (w : World) (hRR : SlAt w w.heap.size 11 AR (rs.map ruC)) (hRO : ∀ r ∈ rs, ruOk r) (h1 : rs.length ≤ cR) (h2 : cR ≤ maxLen) (h40 : rs.length ≤ 40)
  (hA : SlAt w w.heap.size 5 A (l.map erC)) (hl : ∀ x ∈ l, erOk x) (g1 : l.length ≤ cap) (g2 : cap ≤ maxLen) (hk : k < l.length) :
  Calls Tryz.prog 67 #[.agg #[.slice AR rs.length cR, .slice AZ nZ cZ, .slice AL nL cL], .slice A l.length cap, .int .i64 (k : Int)] w fun e w' => e = .returned (.int .i64 (erE rs l k)) ∧ Below w.heap.size w w' := by
 unfold maxLen at g2
 obtain ⟨i0, hi0, hz0, hz1, hz2⟩ := info_parts info_Rule
 have hb1 := (Below.refl w.heap.size w).alloc (Nat.le_refl _) (.cells #[.slice AR rs.length cR, .slice AZ nZ cZ, .slice AL nL cL] 26)
 obtain ⟨b, o, rfl, hb, c0, c1, c2, c3, c4⟩ := er_at (hA.below hb1) hk
 have hi1 : (0 : Int) ≤ (k : Int) := by omega
 have hi2 : (k : Int) < (l.length : Int) := by omega
 have hxo := hl _ (List.getElem_mem hk)
 have HX := Lib.hid (show l[k]! = l[k] from get_bang hk)
 obtain ⟨x, hx⟩ : ∃ x, l[k] = x := ⟨_, rfl⟩
 rw [hx] at c0 c1 c2 c3 c4 hxo HX
 obtain ⟨xo1, xo2, xo3, xo4, xo5⟩ := hxo
 have hb2 := hb1.alloc (by simp) (.cells (erA x) 80)
 have hsz : ((w.alloc (.cells #[.slice AR rs.length cR, .slice AZ nZ cZ, .slice AL nL cL] 26)).alloc (.cells (erA x) 80)).heap.size = w.heap.size + 2 := by rw [size_alloc, size_alloc]
 have kb : ∀ i, ((w.alloc (.cells #[.slice AR rs.length cR, .slice AZ nZ cZ, .slice AL nL cL] 26)).alloc (.cells (erA x) 80)).cell? ⟨w.heap.size, i, none⟩ = (#[.slice AR rs.length cR, .slice AZ nZ cZ, .slice AL nL cL] : Array Value)[i]? := fun i => by rw [cell_old _ _ _ (by rw [size_alloc]; exact Nat.lt_succ_self _), cell_new _ _ _ _ _ rfl]
 have kx : ∀ i, ((w.alloc (.cells #[.slice AR rs.length cR, .slice AZ nZ cZ, .slice AL nL cL] 26)).alloc (.cells (erA x) 80)).cell? ⟨w.heap.size + 1, i, none⟩ = (erA x : Array Value)[i]? := fun i => cell_new _ _ _ _ _ (by rw [size_alloc])
 have HA := Lib.hid hA
 have HRR := Lib.hid hRR
 have HLT := Lib.hid (letter_ok hRO x.rules)
 obtain ⟨last, hlast⟩ : ∃ q, ((k : Int) == (l.length : Int) - 1) = q := ⟨_, rfl⟩
 have HLA := Lib.hid hlast
 have hw1 : IntKind.i64.wrap ((l.length : Int) - 1) = (l.length : Int) - 1 := IntWalk.i64_in _ (by omega)
 clear hx hA hRR hl hRO hb1
 go_enter Tryz.func67, Tryz.ntmps67
 go_upto_region 2 with fail
 clear c0 c1 c2 c3 c4
 revert hb2 hsz kb kx
 generalize ((w.alloc (.cells #[.slice AR rs.length cR, .slice AZ nZ cZ, .slice AL nL cL] 26)).alloc (.cells (erA x) 80)) = W2
 intro hb2 hsz kb kx
 have kxl : w.heap.size + 1 < W2.heap.size := by omega
 have HB2 := Lib.hid hb2
 clear hb2
 by_cases ho : (-64800 ≤ x.off ∧ x.off ≤ 64800) ∧ (0 ≤ x.save ∧ x.save ≤ 10800)
 ·have d1 : decide (x.off < -64800 ∨ 64800 < x.off) = false := decide_eq_false (by omega)
  have d2 : decide (x.save < 0 ∨ 10800 < x.save) = false := decide_eq_false (by omega)
  cases hE : sEq x.rules eMT with
  | true =>
   have hm : (x.rules.toList == []) = true := by rw [mt_eq, hE]
   have HE0 := Lib.hid (show erE1 rs x = abE x.format x.save dASH by rw [erE1, if_neg (not_not_intro ho), if_neg (by rw [hE]; exact fun h => absurd h.2 (by decide)), if_neg (by rw [hE]; exact fun h => absurd h.1 (by decide)), absE, if_pos hE])
   obtain ⟨n, hn⟩ : ∃ n, abE x.format x.save dASH = n := ⟨_, rfl⟩
   have HAB := Lib.hid (r_Abbr x.format dASH x.save xo2 dash_sz W2)
   rw [hn] at HAB HE0
   obtain ⟨q, hq⟩ : ∃ q, (x.save != 0) = q := ⟨_, rfl⟩
   clear ho hE hn
   by_cases n0 : n = 0
   ·have hn0 : (n != 0) = false := by rw [n0]; rfl
    have HE1 := Lib.hid (show erE1 rs x = 0 by rw [HE0.out]; exact n0)
    clear n0
    cases q
    all_goals
     go_wp2_with (first | (go_at_call 24; refine (r_outside _ _ _ _).mono ?_; rintro e w' ⟨rfl, rfl⟩) | (go_at_call 119; refine (r_IsTime _ _).mono ?_; rintro e w' ⟨rfl, rfl⟩))
     refine HAB.out.mono ?_
     rintro e W3 ⟨rfl, hb3⟩
     have kx3 := fun i => (hb3.cell (p := ⟨w.heap.size + 1, i, none⟩) kxl).trans (kx i)
     have kxl3 := Nat.lt_of_lt_of_le kxl hb3.size
     have HB3 := Lib.hid (HB2.out.trans (hb3.mono HB2.out.size))
     clear kb kx hb3 d1 d2 hm hq
     go_upto_region 20 with fail
     cases last with
     | true =>
      have HK := Lib.hid (show k + 1 = l.length by have := beq_iff_eq.1 HLA.out; omega)
      by_cases u0 : x.until_ = 0
      ·have hu : (x.until_ != 0) = false := by rw [u0]; rfl
       have HE := Lib.hid (show erE rs l k = 0 by rw [erE, HX.out, if_pos HE1.out, erE2, if_pos HK.out, HX.out, if_pos u0])
       clear u0
       go_wp2_with fail
       go_ret
       exact ⟨ret_int HE.out.symm, HB3.out⟩
      ·have hu : (x.until_ != 0) = true := by rw [bne_iff_ne]; exact u0
       have HE := Lib.hid (show erE rs l k = 5 by rw [erE, HX.out, if_pos HE1.out, erE2, if_pos HK.out, HX.out, if_neg u0])
       clear u0
       go_wp2_with fail
       go_ret
       exact ⟨ret_int HE.out.symm, HB3.out⟩
     | false =>
      have HK := Lib.hid (show ¬ k + 1 = l.length by have := beq_eq_false_iff_ne.1 HLA.out; omega)
      by_cases u1 : -1099511627776 ≤ x.until_ ∧ x.until_ ≤ 1099511627776
      ·have hd : decide (x.until_ < -1099511627776 ∨ 1099511627776 < x.until_) = false := decide_eq_false (by omega)
       by_cases t0 : stE x.until_ = 0
       ·have ht : isTimeB x.until_ = true := (time_st _).1 t0
        by_cases p0 : 0 < k ∧ x.until_ ≤ l[k - 1]!.until_
        ·have p1 := p0.1
         have hj : k - 1 < l.length := by omega
         have HP := Lib.hid (show x.until_ ≤ l[k - 1].until_ by have := p0.2; rwa [get_bang hj] at this)
         have HE := Lib.hid (show erE rs l k = 5 by rw [erE, HX.out, if_pos HE1.out, erE2, if_neg HK.out, HX.out, if_neg (not_not_intro u1), if_neg (by rw [t0]; exact fun h => h rfl), if_pos p0])
         obtain ⟨b', o', he, hb', _, _, _, _, d4⟩ := er_at (HA.out.below HB3.out) hj
         simp at he
         obtain ⟨rfl, rfl⟩ := he
         have hk0 : (0 : Int) < (k : Int) := by omega
         have hk1 : IntKind.i64.wrap ((k : Int) - 1) = (k : Int) - 1 := IntWalk.i64_in _ (by omega)
         have hk2 : (0 : Int) ≤ (k : Int) - 1 := by omega
         have hk3 : (k : Int) - 1 < (l.length : Int) := by omega
         have hk4 : ((k : Int) - 1).toNat = k - 1 := by omega
         obtain ⟨u, hu⟩ : ∃ u, l[k - 1].until_ = u := ⟨_, rfl⟩
         rw [hu] at d4 HP
         have hP := HP.out
         clear hu HP
         clear u1 t0 p0
         go_wp2_with (first | (go_at_call 24; refine (r_outside _ _ _ _).mono ?_; rintro e w' ⟨rfl, rfl⟩) | (go_at_call 119; refine (r_IsTime _ _).mono ?_; rintro e w' ⟨rfl, rfl⟩))
         go_quiet (fail)
         go_wp2_with fail
         go_ret
         exact ⟨ret_int HE.out.symm, below_drewN HB3.out _⟩
        ·by_cases p1 : 0 < k
         ·have hj : k - 1 < l.length := by omega
          have HP := Lib.hid (show l[k - 1].until_ < x.until_ by have h : ¬ x.until_ ≤ l[k - 1]!.until_ := fun h => p0 ⟨p1, h⟩; rw [get_bang hj] at h; omega)
          have HE := Lib.hid (show erE rs l k = 0 by rw [erE, HX.out, if_pos HE1.out, erE2, if_neg HK.out, HX.out, if_neg (not_not_intro u1), if_neg (by rw [t0]; exact fun h => h rfl), if_neg p0])
          obtain ⟨b', o', he, hb', _, _, _, _, d4⟩ := er_at (HA.out.below HB3.out) hj
          simp at he
          obtain ⟨rfl, rfl⟩ := he
          have hk0 : (0 : Int) < (k : Int) := by omega
          have hk1 : IntKind.i64.wrap ((k : Int) - 1) = (k : Int) - 1 := IntWalk.i64_in _ (by omega)
          have hk2 : (0 : Int) ≤ (k : Int) - 1 := by omega
          have hk3 : (k : Int) - 1 < (l.length : Int) := by omega
          have hk4 : ((k : Int) - 1).toNat = k - 1 := by omega
          obtain ⟨u, hu⟩ : ∃ u, l[k - 1].until_ = u := ⟨_, rfl⟩
          rw [hu] at d4 HP
          have hP := HP.out
          clear hu HP
          clear u1 t0 p0
          go_wp2_with (first | (go_at_call 24; refine (r_outside _ _ _ _).mono ?_; rintro e w' ⟨rfl, rfl⟩) | (go_at_call 119; refine (r_IsTime _ _).mono ?_; rintro e w' ⟨rfl, rfl⟩))
          go_quiet (fail)
          go_wp2_with fail
          go_ret
          exact ⟨ret_int HE.out.symm, below_drewN HB3.out _⟩
         ·have hkk : ¬ (0 : Int) < (k : Int) := by omega
          have HE := Lib.hid (show erE rs l k = 0 by rw [erE, HX.out, if_pos HE1.out, erE2, if_neg HK.out, HX.out, if_neg (not_not_intro u1), if_neg (by rw [t0]; exact fun h => h rfl), if_neg p0])
          clear u1 t0 p0
          go_wp2_with (first | (go_at_call 24; refine (r_outside _ _ _ _).mono ?_; rintro e w' ⟨rfl, rfl⟩) | (go_at_call 119; refine (r_IsTime _ _).mono ?_; rintro e w' ⟨rfl, rfl⟩))
          go_quiet (fail)
          go_wp2_with fail
          go_ret
          exact ⟨ret_int HE.out.symm, below_drewN HB3.out _⟩
       ·have ht : isTimeB x.until_ = false := by rw [← Bool.not_eq_true, ← time_st]; exact t0
        have HE := Lib.hid (show erE rs l k = 1 by rw [erE, HX.out, if_pos HE1.out, erE2, if_neg HK.out, HX.out, if_neg (not_not_intro u1), if_pos t0])
        clear u1 t0
        go_wp2_with (first | (go_at_call 24; refine (r_outside _ _ _ _).mono ?_; rintro e w' ⟨rfl, rfl⟩) | (go_at_call 119; refine (r_IsTime _ _).mono ?_; rintro e w' ⟨rfl, rfl⟩))
        go_ret
        exact ⟨ret_int HE.out.symm, HB3.out⟩
      ·have hd : decide (x.until_ < -1099511627776 ∨ 1099511627776 < x.until_) = true := decide_eq_true (by omega)
       have HE := Lib.hid (show erE rs l k = 1 by rw [erE, HX.out, if_pos HE1.out, erE2, if_neg HK.out, HX.out, if_pos u1])
       clear u1
       go_wp2_with (first | (go_at_call 24; refine (r_outside _ _ _ _).mono ?_; rintro e w' ⟨rfl, rfl⟩) | (go_at_call 119; refine (r_IsTime _ _).mono ?_; rintro e w' ⟨rfl, rfl⟩))
       go_ret
       exact ⟨ret_int HE.out.symm, HB3.out⟩
   ·have hn0 : (n != 0) = true := by rw [bne_iff_ne]; exact n0
    have HE := Lib.hid (show erE rs l k = n by rw [erE, HX.out, if_neg (by rw [HE0.out]; exact n0), HE0.out])
    clear n0
    cases q
    all_goals
     go_wp2_with (first | (go_at_call 24; refine (r_outside _ _ _ _).mono ?_; rintro e w' ⟨rfl, rfl⟩) | (go_at_call 119; refine (r_IsTime _ _).mono ?_; rintro e w' ⟨rfl, rfl⟩))
     refine HAB.out.mono ?_
     rintro e W3 ⟨rfl, hb3⟩
     go_wp2_with fail
     go_ret
     exact ⟨ret_int HE.out.symm, HB2.out.trans (hb3.mono HB2.out.size)⟩
  | false =>
   have hm : (x.rules.toList == []) = false := by rw [mt_eq, hE]
   by_cases hs : x.save = 0
   ·have hs2 : (x.save != 0) = false := by rw [hs]; rfl
    have HRO2 := Lib.hid (r_rulesOf AR AZ AL cR cZ cL nZ nL rs x.rules W2 ((HRR.out.below HB2.out).more HB2.out.size) h1 h2 h40)
    have HE00 := Lib.hid (show erE1 rs x = if (fil rs x.rules).length = 0 then 6 else fE x.format (fil rs x.rules ++ [dR]) by
     rw [erE1, if_neg (not_not_intro ho), if_neg (fun h => h.1 hs), fil_has, absE_fil hE]
     by_cases hG : (fil rs x.rules).length = 0
     ·rw [if_pos hG, if_pos ⟨hE, by rw [hG]; rfl⟩]
     ·rw [if_neg hG, if_neg (fun h => by have := of_decide_eq_false h.2; omega)])
    have HGL := Lib.hid (show (fil rs x.rules).length ≤ 40 by have := fil_len rs x.rules rs.length; rw [List.take_length] at this; omega)
    obtain ⟨G, hG⟩ : ∃ G, fil rs x.rules = G := ⟨_, rfl⟩
    rw [hG] at HRO2 HE00 HGL HLT
    clear ho hE hs hG
    go_wp2_with (first | (go_at_call 24; refine (r_outside _ _ _ _).mono ?_; rintro e w' ⟨rfl, rfl⟩) | (go_at_call 119; refine (r_IsTime _ _).mono ?_; rintro e w' ⟨rfl, rfl⟩))
    refine HRO2.out.mono ?_
    rintro e W3 ⟨v, rfl, hO, hb3⟩
    have kx3 := fun i => (hb3.cell (p := ⟨w.heap.size + 1, i, none⟩) kxl).trans (kx i)
    have kxl3 := Nat.lt_of_lt_of_le kxl hb3.size
    have HB3 := Lib.hid (HB2.out.trans (hb3.mono HB2.out.size))
    obtain ⟨AG, cG, rfl, _, _, _⟩ := own_at (xss := G.map ruC) (by simpa using hO) (by intro xs hx; obtain ⟨t, _, rfl⟩ := List.mem_map.1 hx; rfl)
    rw [List.length_map] at hO
    have HO := Lib.hid hO
    have hz3 : W2.heap.size ≤ W3.heap.size := hb3.size
    have hgl := HGL.out
    clear hO kb kx hb3 d1 d2 hm HRO2
    rw [List.length_map]
    by_cases g0 : G.length = 0
    ·have HE := Lib.hid (show erE rs l k = 6 by rw [erE, HX.out, if_neg (by rw [HE00.out, if_pos g0]; decide), HE00.out, if_pos g0])
     have hg0 : ((G.length : Int) == 0) = true := by rw [g0]; rfl
     clear g0
     go_wp2_with fail
     go_ret
     exact ⟨ret_int HE.out.symm, HB3.out⟩
    ·have HE0 := Lib.hid (show erE1 rs x = fE x.format (G ++ [dR]) by rw [HE00.out, if_neg g0])
     have hg0 : ((G.length : Int) == 0) = false := by rw [beq_eq_false_iff_ne]; omega
     clear g0 HE00
     go_wp2_with (at_builtin; refine wpList_append_lies _ rfl _ _ _ rfl W2.heap.size 70 i0 _ 11 104 Tryz.underlying22 hi0 hz0 hz1 hz2 rfl (by omega) (.slice AG G.length cG) G.length _ rfl (World.ownsRow.alloc HO.out _) ⟨W3.heap.size, 0, none⟩ 1 1 (ruC dR) rfl rfl (World.news_of_block (cs := (ruC dR).toArray) (t := 70) (fr := (0, 0)) (heap_alloc_new W3 _)) (by simp [Value.oneCell', ruC]) (by omega) (by unfold maxLen; omega) (by omega) (by simp; omega) (W3.heap.size + 1) (by simp) ?_; intro gg cap2 w9 hown1 hgrow hat hlt9)
     have e1 : (G ++ [dR]).length = G.length + 1 := by simp
     have hB39 := below_app (base := W2.heap.size) (by simp; omega) (World.ownsRow.alloc HO.out (.cells (ruA dR) 70)) hgrow
     have hB3a := ((Below.refl W2.heap.size W3).alloc hz3 (.cells (ruA dR) 70)).trans hB39
     have HB9 := Lib.hid (HB3.out.trans (hB3a.mono (by omega)))
     have kx9 := fun i => (hB3a.cell (p := ⟨w.heap.size + 1, i, none⟩) kxl).trans (kx3 i)
     have kxl9 := Nat.lt_of_lt_of_le kxl3 hB3a.size
     obtain ⟨A9, cap9, e9, q1, q2, hS9⟩ := own_at (xss := (G ++ [dR]).map ruC) (by rw [List.length_map, e1]; simpa using hown1) (by intro xs hx; obtain ⟨t, _, rfl⟩ := List.mem_map.1 hx; rfl)
     rw [List.length_map, e1] at e9 q1
     cases e9
     have HS9 := Lib.hid hS9
     unfold maxLen at q2
     have HE2 := Lib.hid (show fE x.format (G ++ [dR]) = firE (fun j => abE x.format (G ++ [dR])[j]!.sv (G ++ [dR])[j]!.letter) (G.length + 1) by rw [fE, e1])
     have HE10 := Lib.hid e1
     clear hown1 hgrow hat hB39 hB3a kx3 kxl3 hS9 HO hg0 e1
     go_loopw [61] (fun i wr => ∃ q : Nat, q ≤ G.length + 1 ∧ i = .int .i64 q ∧ Hid (∀ j, j < q → abE x.format (G ++ [dR])[j]!.sv (G ++ [dR])[j]!.letter = 0) ∧ Below w9.heap.size w9 wr) (fun i _ => G.length + 1 - (intOf i).toNat)
     case atStart => exact ⟨0, Nat.zero_le _, rfl, Lib.hid (fun q h => absurd h (by omega)), Below.refl _ _⟩
     case round =>
      obtain ⟨q, hq, rfl, HQ, hbr⟩ := hrel
      have HBR := Lib.hid hbr
      have hzr := hbr.size
      have kxr := fun i => (hbr.cell (p := ⟨w.heap.size + 1, i, none⟩) kxl9).trans (kx9 i)
      have kxlr := Nat.lt_of_lt_of_le kxl9 hbr.size
      by_cases hlt : q < G.length + 1
      ·have hlt2 : q < (G ++ [dR]).length := by rw [HE10.out]; exact hlt
       obtain ⟨b5, o5, he5, hb5, c0, c1, c2, c3, c4, c5, c6, c7, c8, c9, c10⟩ := ru_at (HS9.out.below hbr) hlt2
       cases he5
       simp only [Nat.zero_add] at c0 c1 c2 c3 c4 c5 c6 c7 c8 c9 c10
       have hb' : gg < wr.heap.size := by omega
       have hj1 : (0 : Int) ≤ (q : Int) := by omega
       have hj2 : (q : Int) < ((G.length + 1 : Nat) : Int) := by omega
       have hro := HLT.out _ (List.getElem_mem hlt2)
       have HV := Lib.hid (show (G ++ [dR])[q]! = (G ++ [dR])[q] from get_bang hlt2)
       obtain ⟨r, hr⟩ : ∃ r, (G ++ [dR])[q] = r := ⟨_, rfl⟩
       rw [hr] at c0 c1 c2 c3 c4 c5 c6 c7 c8 c9 c10 hro HV
       have HBA := Lib.hid ((Below.refl wr.heap.size wr).alloc (Nat.le_refl _) (.cells (ruA r) 70))
       have HC := Lib.hid (r_Abbr x.format r.letter r.sv xo2 hro (wr.alloc (.cells (ruA r) 70)))
       obtain ⟨n, hn⟩ : ∃ n, abE x.format r.sv r.letter = n := ⟨_, rfl⟩
       have HV2 := Lib.hid (show abE x.format (G ++ [dR])[q]!.sv (G ++ [dR])[q]!.letter = n by rw [HV.out]; exact hn)
       rw [hn] at HC
       clear hr hn hbr HV hlt2
       by_cases n0 : n = 0
       ·have hn0 : (n != 0) = false := by rw [n0]; rfl
        have HQ2 := Lib.hid (show ∀ j, j < q + 1 → abE x.format (G ++ [dR])[j]!.sv (G ++ [dR])[j]!.letter = 0 from fun j hj => if h : j < q then HQ.out j h else (by obtain rfl : j = q := (by omega); rw [HV2.out, n0]))
        clear n0 HQ HV2
        go_wp2_with fail
        refine HC.out.mono ?_
        rintro e W5 ⟨rfl, hb5'⟩
        go_wp2_with fail
        exact ⟨⟨q + 1, by omega, by go_num, HQ2, HBR.out.trans ((HBA.out.trans (hb5'.mono HBA.out.size)).mono HBR.out.size)⟩, by simp [intOf]; omega⟩
       ·have hn0 : (n != 0) = true := by rw [bne_iff_ne]; exact n0
        have HE4 := Lib.hid (show fE x.format (G ++ [dR]) = n by rw [HE2.out]; exact (firE_at (f := fun j => abE x.format (G ++ [dR])[j]!.sv (G ++ [dR])[j]!.letter) HQ.out (by show abE x.format (G ++ [dR])[q]!.sv (G ++ [dR])[q]!.letter ≠ 0; rw [HV2.out]; exact n0) hlt).trans HV2.out)
        have HE := Lib.hid (show erE rs l k = n by rw [erE, HX.out, if_neg (by rw [HE0.out, HE4.out]; exact n0), HE0.out, HE4.out])
        clear n0 HQ HV2 HE4
        go_wp2_with fail
        refine HC.out.mono ?_
        rintro e W5 ⟨rfl, hb5'⟩
        go_wp2_with fail
        go_ret
        exact ⟨ret_int HE.out.symm, HB9.out.trans ((HBR.out.trans ((HBA.out.trans (hb5'.mono HBA.out.size)).mono HBR.out.size)).mono HB9.out.size)⟩
      ·obtain rfl : q = G.length + 1 := by omega
       have HE1 := Lib.hid (show erE1 rs x = 0 by rw [HE0.out, HE2.out]; exact firE_zero HQ.out)
       have HBW := Lib.hid (HB9.out.trans (hbr.mono HB9.out.size))
       clear HQ hbr HBR kx9 kxl9 HE0 HE2 HS9
       go_upto_region 20 with fail
       cases last with
       | true =>
        have HK := Lib.hid (show k + 1 = l.length by have := beq_iff_eq.1 HLA.out; omega)
        by_cases u0 : x.until_ = 0
        ·have hu : (x.until_ != 0) = false := by rw [u0]; rfl
         have HE := Lib.hid (show erE rs l k = 0 by rw [erE, HX.out, if_pos HE1.out, erE2, if_pos HK.out, HX.out, if_pos u0])
         clear u0
         go_wp2_with fail
         go_ret
         exact ⟨ret_int HE.out.symm, HBW.out⟩
        ·have hu : (x.until_ != 0) = true := by rw [bne_iff_ne]; exact u0
         have HE := Lib.hid (show erE rs l k = 5 by rw [erE, HX.out, if_pos HE1.out, erE2, if_pos HK.out, HX.out, if_neg u0])
         clear u0
         go_wp2_with fail
         go_ret
         exact ⟨ret_int HE.out.symm, HBW.out⟩
       | false =>
        have HK := Lib.hid (show ¬ k + 1 = l.length by have := beq_eq_false_iff_ne.1 HLA.out; omega)
        by_cases u1 : -1099511627776 ≤ x.until_ ∧ x.until_ ≤ 1099511627776
        ·have hd : decide (x.until_ < -1099511627776 ∨ 1099511627776 < x.until_) = false := decide_eq_false (by omega)
         by_cases t0 : stE x.until_ = 0
         ·have ht : isTimeB x.until_ = true := (time_st _).1 t0
          by_cases p0 : 0 < k ∧ x.until_ ≤ l[k - 1]!.until_
          ·have p1 := p0.1
           have hj : k - 1 < l.length := by omega
           have HP := Lib.hid (show x.until_ ≤ l[k - 1].until_ by have := p0.2; rwa [get_bang hj] at this)
           have HE := Lib.hid (show erE rs l k = 5 by rw [erE, HX.out, if_pos HE1.out, erE2, if_neg HK.out, HX.out, if_neg (not_not_intro u1), if_neg (by rw [t0]; exact fun h => h rfl), if_pos p0])
           obtain ⟨b', o', he, hb', _, _, _, _, d4⟩ := er_at (HA.out.below HBW.out) hj
           simp at he
           obtain ⟨rfl, rfl⟩ := he
           have hk0 : (0 : Int) < (k : Int) := by omega
           have hk1 : IntKind.i64.wrap ((k : Int) - 1) = (k : Int) - 1 := IntWalk.i64_in _ (by omega)
           have hk2 : (0 : Int) ≤ (k : Int) - 1 := by omega
           have hk3 : (k : Int) - 1 < (l.length : Int) := by omega
           have hk4 : ((k : Int) - 1).toNat = k - 1 := by omega
           obtain ⟨u, hu⟩ : ∃ u, l[k - 1].until_ = u := ⟨_, rfl⟩
           rw [hu] at d4 HP
           have hP := HP.out
           clear hu HP
           clear u1 t0 p0
           go_wp2_with (first | (go_at_call 24; refine (r_outside _ _ _ _).mono ?_; rintro e w' ⟨rfl, rfl⟩) | (go_at_call 119; refine (r_IsTime _ _).mono ?_; rintro e w' ⟨rfl, rfl⟩))
           go_quiet (fail)
           go_wp2_with fail
           go_ret
           exact ⟨ret_int HE.out.symm, below_drewN HBW.out _⟩
          ·by_cases p1 : 0 < k
           ·have hj : k - 1 < l.length := by omega
            have HP := Lib.hid (show l[k - 1].until_ < x.until_ by have h : ¬ x.until_ ≤ l[k - 1]!.until_ := fun h => p0 ⟨p1, h⟩; rw [get_bang hj] at h; omega)
            have HE := Lib.hid (show erE rs l k = 0 by rw [erE, HX.out, if_pos HE1.out, erE2, if_neg HK.out, HX.out, if_neg (not_not_intro u1), if_neg (by rw [t0]; exact fun h => h rfl), if_neg p0])
            obtain ⟨b', o', he, hb', _, _, _, _, d4⟩ := er_at (HA.out.below HBW.out) hj
            simp at he
            obtain ⟨rfl, rfl⟩ := he
            have hk0 : (0 : Int) < (k : Int) := by omega
            have hk1 : IntKind.i64.wrap ((k : Int) - 1) = (k : Int) - 1 := IntWalk.i64_in _ (by omega)
            have hk2 : (0 : Int) ≤ (k : Int) - 1 := by omega
            have hk3 : (k : Int) - 1 < (l.length : Int) := by omega
            have hk4 : ((k : Int) - 1).toNat = k - 1 := by omega
            obtain ⟨u, hu⟩ : ∃ u, l[k - 1].until_ = u := ⟨_, rfl⟩
            rw [hu] at d4 HP
            have hP := HP.out
            clear hu HP
            clear u1 t0 p0
            go_wp2_with (first | (go_at_call 24; refine (r_outside _ _ _ _).mono ?_; rintro e w' ⟨rfl, rfl⟩) | (go_at_call 119; refine (r_IsTime _ _).mono ?_; rintro e w' ⟨rfl, rfl⟩))
            go_quiet (fail)
            go_wp2_with fail
            go_ret
            exact ⟨ret_int HE.out.symm, below_drewN HBW.out _⟩
           ·have hkk : ¬ (0 : Int) < (k : Int) := by omega
            have HE := Lib.hid (show erE rs l k = 0 by rw [erE, HX.out, if_pos HE1.out, erE2, if_neg HK.out, HX.out, if_neg (not_not_intro u1), if_neg (by rw [t0]; exact fun h => h rfl), if_neg p0])
            clear u1 t0 p0
            go_wp2_with (first | (go_at_call 24; refine (r_outside _ _ _ _).mono ?_; rintro e w' ⟨rfl, rfl⟩) | (go_at_call 119; refine (r_IsTime _ _).mono ?_; rintro e w' ⟨rfl, rfl⟩))
            go_quiet (fail)
            go_wp2_with fail
            go_ret
            exact ⟨ret_int HE.out.symm, below_drewN HBW.out _⟩
         ·have ht : isTimeB x.until_ = false := by rw [← Bool.not_eq_true, ← time_st]; exact t0
          have HE := Lib.hid (show erE rs l k = 1 by rw [erE, HX.out, if_pos HE1.out, erE2, if_neg HK.out, HX.out, if_neg (not_not_intro u1), if_pos t0])
          clear u1 t0
          go_wp2_with (first | (go_at_call 24; refine (r_outside _ _ _ _).mono ?_; rintro e w' ⟨rfl, rfl⟩) | (go_at_call 119; refine (r_IsTime _ _).mono ?_; rintro e w' ⟨rfl, rfl⟩))
          go_ret
          exact ⟨ret_int HE.out.symm, HBW.out⟩
        ·have hd : decide (x.until_ < -1099511627776 ∨ 1099511627776 < x.until_) = true := decide_eq_true (by omega)
         have HE := Lib.hid (show erE rs l k = 1 by rw [erE, HX.out, if_pos HE1.out, erE2, if_neg HK.out, HX.out, if_pos u1])
         clear u1
         go_wp2_with (first | (go_at_call 24; refine (r_outside _ _ _ _).mono ?_; rintro e w' ⟨rfl, rfl⟩) | (go_at_call 119; refine (r_IsTime _ _).mono ?_; rintro e w' ⟨rfl, rfl⟩))
         go_ret
         exact ⟨ret_int HE.out.symm, HBW.out⟩
   ·have hs2 : (x.save != 0) = true := by rw [bne_iff_ne]; exact hs
    have HE := Lib.hid (show erE rs l k = 5 by have h : erE1 rs x = 5 := (by rw [erE1, if_neg (not_not_intro ho), if_pos ⟨hs, hE⟩]); rw [erE, HX.out, if_neg (by rw [h]; decide), h])
    clear ho hE hs
    go_wp2_with (first | (go_at_call 24; refine (r_outside _ _ _ _).mono ?_; rintro e w' ⟨rfl, rfl⟩) | (go_at_call 119; refine (r_IsTime _ _).mono ?_; rintro e w' ⟨rfl, rfl⟩))
    go_ret
    exact ⟨ret_int HE.out.symm, HB2.out⟩
 ·have HE := Lib.hid (show erE rs l k = 1 by have h : erE1 rs x = 1 := (by rw [erE1, if_pos ho]); rw [erE, HX.out, if_neg (by rw [h]; decide), h])
  by_cases ho1 : -64800 ≤ x.off ∧ x.off ≤ 64800
  ·have d1 : decide (x.off < -64800 ∨ 64800 < x.off) = false := decide_eq_false (by omega)
   have d2 : decide (x.save < 0 ∨ 10800 < x.save) = true := decide_eq_true (by omega)
   clear ho ho1
   go_wp2_with (first | (go_at_call 24; refine (r_outside _ _ _ _).mono ?_; rintro e w' ⟨rfl, rfl⟩) | (go_at_call 119; refine (r_IsTime _ _).mono ?_; rintro e w' ⟨rfl, rfl⟩))
   go_ret
   exact ⟨ret_int HE.out.symm, HB2.out⟩
  ·have d1 : decide (x.off < -64800 ∨ 64800 < x.off) = true := decide_eq_true (by omega)
   clear ho ho1
   go_wp2_with (first | (go_at_call 24; refine (r_outside _ _ _ _).mono ?_; rintro e w' ⟨rfl, rfl⟩) | (go_at_call 119; refine (r_IsTime _ _).mono ?_; rintro e w' ⟨rfl, rfl⟩))
   go_ret
   exact ⟨ret_int HE.out.symm, HB2.out⟩
end Go.Proofs.YthppifcggmdmoaaGreatDoor

