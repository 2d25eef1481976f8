/- Part 13 of the proof of TopWall: no condition; what its declarations say stands at each. -/
import Derived.Test.YthppifcggmdmoaaGreatDoorW05
import Derived.Test.YthppifcggmdmoaaGreatDoorW02
namespace Go.Proofs.YthppifcggmdmoaaGreatDoor
open Go.RowKit
set_option linter.unusedVariables false
attribute [local go_sem ↓] Go.wp_at_zero Go.wp_at_succ
def idxOfF {α : Type} (p : α → Bool) : List α → Nat → Int
 | [], _ => -1
 | x :: l, k => if p x = true then (k : Int) else idxOfF p l (k + 1)
theorem idxOfF_at {α : Type} {p : α → Bool} : ∀ {l : List α} {k : Nat} (hk : k < l.length) (b : Nat), (∀ j (hj : j < l.length), j < k → p l[j] = false) → p l[k] = true → idxOfF p l b = ((b + k : Nat) : Int)
 | x :: l, 0, _, b, _, h => by rw [idxOfF, if_pos (show p x = true from h)]; rfl
 | x :: l, k + 1, hk, b, h1, h2 => by
  have h0 : p x = false := h1 0 (by simp) (by omega)
  rw [idxOfF, if_neg (by rw [h0]; exact Bool.false_ne_true), idxOfF_at (l := l) (k := k) (by simpa using hk) (b + 1) (fun j hj hjk => h1 (j + 1) (by simpa using hj) (by omega)) (by simpa using h2)]
  congr 1; omega
theorem idxOfF_none {α : Type} {p : α → Bool} : ∀ {l : List α} (b : Nat), (∀ j (hj : j < l.length), p l[j] = false) → idxOfF p l b = -1
 | [], _, _ => rfl
 | x :: l, b, h => by
  have h0 : p x = false := h 0 (by simp)
  rw [idxOfF, if_neg (by rw [h0]; exact Bool.false_ne_true)]
  exact idxOfF_none (b + 1) (fun j hj => h (j + 1) (by simpa using hj))
theorem any_idx {α : Type} {p : α → Bool} : ∀ (l : List α) (b : Nat), decide (0 ≤ idxOfF p l b) = l.any p
 | [], _ => rfl
 | x :: l, b => by
  rw [idxOfF, List.any_cons]
  by_cases h : p x = true
  ·rw [if_pos h, h]; simp
  ·rw [if_neg h, any_idx l (b + 1)]; simp [h]

set_option maxRecDepth 100000 in
set_option maxHeartbeats 1000000 in
theorem f_zZ (z : ZoT) (g : Nat) (nm : ByteArray) (w : World) (hg : g < w.heap.size) (hc : w.cell? ⟨g, 0, none⟩ = some (.string nm)) :
  Calls Tryz.prog 104 #[.agg #[.string z.name, .slice z.A z.eras.length z.cap], .pointer (some ⟨g, 0, none⟩)] w fun e w' => e = .returned (.bool (sEq z.name nm)) ∧ Below w.heap.size w w' := by
 have hb : Below w.heap.size w (w.alloc (.cells #[.string z.name, .slice z.A z.eras.length z.cap] 75)) := (by repeat (first | exact Below.refl _ _ | assumption | apply Below.drew | apply below_drewN | (refine Below.alloc ?_ (by simp; try omega) _) | (refine Below.setCell ?_ (by simp; try omega) _)))
 have hc2 := (hb.cell (p := ⟨g, 0, none⟩) hg).trans hc
 go_enter Tryz.func104, Tryz.ntmps104
 go_wp2_with fail
 go_ret
 exact ⟨rfl, hb⟩

set_option maxRecDepth 100000 in
set_option maxHeartbeats 1000000 in
theorem s_zZ (A : Option Addr) (cap : Nat) (zs : List ZoT) (g : Nat) (nm : ByteArray) (w : World) (hA : SlAt w w.heap.size 2 A (zs.map zoC)) (h1 : zs.length ≤ cap) (m1 : cap ≤ maxLen) (hg : g < w.heap.size) (hc : w.cell? ⟨g, 0, none⟩ = some (.string nm)) :
  Calls Tryz.prog 151 #[.slice A zs.length cap, .func (.func 104) #[] #[.pointer (some ⟨g, 0, none⟩)]] w fun e w' => e = .returned (.int .i64 (idxOfF (fun z => sEq z.name nm) zs 0)) ∧ Below w.heap.size w w' := by
 unfold maxLen at m1
 go_enter Tryz.func151, Tryz.ntmps151
 go_wp2_with fail
 go_loopw [8] (fun i wr => ∃ k : Nat, k ≤ zs.length ∧ i = .int .i64 k ∧ Hid (∀ j (hj : j < zs.length), j < k → (fun z : ZoT => sEq z.name nm) zs[j] = false) ∧ Below w.heap.size w wr) (fun i _ => zs.length - (intOf i).toNat)
 case atStart => exact ⟨0, Nat.zero_le _, rfl, Lib.hid (fun j hj h => absurd h (by omega)), Below.refl _ _⟩
 case round =>
  obtain ⟨k, hk, rfl, HN, hB⟩ := hrel
  by_cases hlt : k < zs.length
  ·obtain ⟨b, o, rfl, hb, c0, c1⟩ := zo_at (hA.below hB) hlt
   have hz := hB.size
   have hi1 : (0 : Int) ≤ (k : Int) := by omega
   have hi2 : (k : Int) < (zs.length : Int) := by omega
   have hF := Lib.hid (f_zZ zs[k] g nm wr (by omega) ((hB.cell (p := ⟨g, 0, none⟩) hg).trans hc))
   have HE := Lib.hid (fun (h : sEq zs[k].name nm = true) => idxOfF_at (p := fun z : ZoT => sEq z.name nm) hlt 0 HN.out h)
   have HG := Lib.hid (fun (h : sEq zs[k].name nm = false) j (hj : j < zs.length) (h2 : j < k + 1) => (if h3 : j < k then HN.out j hj h3 else (by obtain rfl : j = k := (by omega); exact h) : (fun z : ZoT => sEq z.name nm) zs[j] = false))
   obtain ⟨x, hx⟩ : ∃ x, zs[k] = x := ⟨_, rfl⟩
   simp only [hx] at c0 c1 hF HE HG
   clear hx HN
   cases hs : sEq x.name nm with
   | true =>
    rw [hs] at hF
    have HE2 := Lib.hid (HE.out hs)
    clear HE HG hs
    go_wp2_with fail
    refine hF.out.mono ?_
    rintro e w1 ⟨rfl, hb1⟩
    go_wp2_with fail
    go_ret
    exact ⟨ret_int (by rw [HE2.out]; omega), hB.trans (hb1.mono hB.size)⟩
   | false =>
    rw [hs] at hF
    have HE2 := Lib.hid (HG.out hs)
    clear HE HG hs
    go_wp2_with fail
    refine hF.out.mono ?_
    rintro e w1 ⟨rfl, hb1⟩
    go_wp2_with fail
    exact ⟨⟨k + 1, by omega, by go_num, Lib.hid HE2.out, hB.trans (hb1.mono hB.size)⟩, by simp [intOf]; omega⟩
  ·obtain rfl : k = zs.length := by omega
   have HE := Lib.hid (idxOfF_none (p := fun z : ZoT => sEq z.name nm) 0 (fun j hj => HN.out j hj hj))
   clear HN
   go_wp2_with fail
   go_ret
   exact ⟨ret_int HE.out.symm, hB⟩

set_option maxRecDepth 100000 in
set_option maxHeartbeats 1000000 in
theorem f_zL (z : ZoT) (g : Nat) (nm : ByteArray) (w : World) (hg : g < w.heap.size) (hc : w.cell? ⟨g, 0, none⟩ = some (.string nm)) :
  Calls Tryz.prog 107 #[.agg #[.string z.name, .slice z.A z.eras.length z.cap], .pointer (some ⟨g, 0, none⟩)] w fun e w' => e = .returned (.bool (sEq z.name nm)) ∧ Below w.heap.size w w' := by
 have hb : Below w.heap.size w (w.alloc (.cells #[.string z.name, .slice z.A z.eras.length z.cap] 75)) := (by repeat (first | exact Below.refl _ _ | assumption | apply Below.drew | apply below_drewN | (refine Below.alloc ?_ (by simp; try omega) _) | (refine Below.setCell ?_ (by simp; try omega) _)))
 have hc2 := (hb.cell (p := ⟨g, 0, none⟩) hg).trans hc
 go_enter Tryz.func107, Tryz.ntmps107
 go_wp2_with fail
 go_ret
 exact ⟨rfl, hb⟩

set_option maxRecDepth 100000 in
set_option maxHeartbeats 1000000 in
theorem s_zL (A : Option Addr) (cap : Nat) (zs : List ZoT) (g : Nat) (nm : ByteArray) (w : World) (hA : SlAt w w.heap.size 2 A (zs.map zoC)) (h1 : zs.length ≤ cap) (m1 : cap ≤ maxLen) (hg : g < w.heap.size) (hc : w.cell? ⟨g, 0, none⟩ = some (.string nm)) :
  Calls Tryz.prog 151 #[.slice A zs.length cap, .func (.func 107) #[] #[.pointer (some ⟨g, 0, none⟩)]] w fun e w' => e = .returned (.int .i64 (idxOfF (fun z => sEq z.name nm) zs 0)) ∧ Below w.heap.size w w' := by
 unfold maxLen at m1
 go_enter Tryz.func151, Tryz.ntmps151
 go_wp2_with fail
 go_loopw [8] (fun i wr => ∃ k : Nat, k ≤ zs.length ∧ i = .int .i64 k ∧ Hid (∀ j (hj : j < zs.length), j < k → (fun z : ZoT => sEq z.name nm) zs[j] = false) ∧ Below w.heap.size w wr) (fun i _ => zs.length - (intOf i).toNat)
 case atStart => exact ⟨0, Nat.zero_le _, rfl, Lib.hid (fun j hj h => absurd h (by omega)), Below.refl _ _⟩
 case round =>
  obtain ⟨k, hk, rfl, HN, hB⟩ := hrel
  by_cases hlt : k < zs.length
  ·obtain ⟨b, o, rfl, hb, c0, c1⟩ := zo_at (hA.below hB) hlt
   have hz := hB.size
   have hi1 : (0 : Int) ≤ (k : Int) := by omega
   have hi2 : (k : Int) < (zs.length : Int) := by omega
   have hF := Lib.hid (f_zL zs[k] g nm wr (by omega) ((hB.cell (p := ⟨g, 0, none⟩) hg).trans hc))
   have HE := Lib.hid (fun (h : sEq zs[k].name nm = true) => idxOfF_at (p := fun z : ZoT => sEq z.name nm) hlt 0 HN.out h)
   have HG := Lib.hid (fun (h : sEq zs[k].name nm = false) j (hj : j < zs.length) (h2 : j < k + 1) => (if h3 : j < k then HN.out j hj h3 else (by obtain rfl : j = k := (by omega); exact h) : (fun z : ZoT => sEq z.name nm) zs[j] = false))
   obtain ⟨x, hx⟩ : ∃ x, zs[k] = x := ⟨_, rfl⟩
   simp only [hx] at c0 c1 hF HE HG
   clear hx HN
   cases hs : sEq x.name nm with
   | true =>
    rw [hs] at hF
    have HE2 := Lib.hid (HE.out hs)
    clear HE HG hs
    go_wp2_with fail
    refine hF.out.mono ?_
    rintro e w1 ⟨rfl, hb1⟩
    go_wp2_with fail
    go_ret
    exact ⟨ret_int (by rw [HE2.out]; omega), hB.trans (hb1.mono hB.size)⟩
   | false =>
    rw [hs] at hF
    have HE2 := Lib.hid (HG.out hs)
    clear HE HG hs
    go_wp2_with fail
    refine hF.out.mono ?_
    rintro e w1 ⟨rfl, hb1⟩
    go_wp2_with fail
    exact ⟨⟨k + 1, by omega, by go_num, Lib.hid HE2.out, hB.trans (hb1.mono hB.size)⟩, by simp [intOf]; omega⟩
  ·obtain rfl : k = zs.length := by omega
   have HE := Lib.hid (idxOfF_none (p := fun z : ZoT => sEq z.name nm) 0 (fun j hj => HN.out j hj hj))
   clear HN
   go_wp2_with fail
   go_ret
   exact ⟨ret_int HE.out.symm, hB⟩

set_option maxRecDepth 100000 in
set_option maxHeartbeats 1000000 in
theorem f_lL (z : LkT) (g : Nat) (nm : ByteArray) (w : World) (hg : g < w.heap.size) (hc : w.cell? ⟨g, 0, none⟩ = some (.string nm)) :
  Calls Tryz.prog 110 #[.agg #[.string z.1, .string z.2], .pointer (some ⟨g, 0, none⟩)] w fun e w' => e = .returned (.bool (sEq z.1 nm)) ∧ Below w.heap.size w w' := by
 have hb : Below w.heap.size w (w.alloc (.cells #[.string z.1, .string z.2] 77)) := (by repeat (first | exact Below.refl _ _ | assumption | apply Below.drew | apply below_drewN | (refine Below.alloc ?_ (by simp; try omega) _) | (refine Below.setCell ?_ (by simp; try omega) _)))
 have hc2 := (hb.cell (p := ⟨g, 0, none⟩) hg).trans hc
 go_enter Tryz.func110, Tryz.ntmps110
 go_wp2_with fail
 go_ret
 exact ⟨rfl, hb⟩

set_option maxRecDepth 100000 in
set_option maxHeartbeats 1000000 in
theorem s_lL (A : Option Addr) (cap : Nat) (zs : List LkT) (g : Nat) (nm : ByteArray) (w : World) (hA : SlAt w w.heap.size 2 A (zs.map lkC)) (h1 : zs.length ≤ cap) (m1 : cap ≤ maxLen) (hg : g < w.heap.size) (hc : w.cell? ⟨g, 0, none⟩ = some (.string nm)) :
  Calls Tryz.prog 155 #[.slice A zs.length cap, .func (.func 110) #[] #[.pointer (some ⟨g, 0, none⟩)]] w fun e w' => e = .returned (.int .i64 (idxOfF (fun z => sEq z.1 nm) zs 0)) ∧ Below w.heap.size w w' := by
 unfold maxLen at m1
 go_enter Tryz.func155, Tryz.ntmps155
 go_wp2_with fail
 go_loopw [8] (fun i wr => ∃ k : Nat, k ≤ zs.length ∧ i = .int .i64 k ∧ Hid (∀ j (hj : j < zs.length), j < k → (fun z : LkT => sEq z.1 nm) zs[j] = false) ∧ Below w.heap.size w wr) (fun i _ => zs.length - (intOf i).toNat)
 case atStart => exact ⟨0, Nat.zero_le _, rfl, Lib.hid (fun j hj h => absurd h (by omega)), Below.refl _ _⟩
 case round =>
  obtain ⟨k, hk, rfl, HN, hB⟩ := hrel
  by_cases hlt : k < zs.length
  ·obtain ⟨b, o, rfl, hb, c0, c1⟩ := lk_at (hA.below hB) hlt
   have hz := hB.size
   have hi1 : (0 : Int) ≤ (k : Int) := by omega
   have hi2 : (k : Int) < (zs.length : Int) := by omega
   have hF := Lib.hid (f_lL zs[k] g nm wr (by omega) ((hB.cell (p := ⟨g, 0, none⟩) hg).trans hc))
   have HE := Lib.hid (fun (h : sEq zs[k].1 nm = true) => idxOfF_at (p := fun z : LkT => sEq z.1 nm) hlt 0 HN.out h)
   have HG := Lib.hid (fun (h : sEq zs[k].1 nm = false) j (hj : j < zs.length) (h2 : j < k + 1) => (if h3 : j < k then HN.out j hj h3 else (by obtain rfl : j = k := (by omega); exact h) : (fun z : LkT => sEq z.1 nm) zs[j] = false))
   obtain ⟨x, hx⟩ : ∃ x, zs[k] = x := ⟨_, rfl⟩
   simp only [hx] at c0 c1 hF HE HG
   clear hx HN
   cases hs : sEq x.1 nm with
   | true =>
    rw [hs] at hF
    have HE2 := Lib.hid (HE.out hs)
    clear HE HG hs
    go_wp2_with fail
    refine hF.out.mono ?_
    rintro e w1 ⟨rfl, hb1⟩
    go_wp2_with fail
    go_ret
    exact ⟨ret_int (by rw [HE2.out]; omega), hB.trans (hb1.mono hB.size)⟩
   | false =>
    rw [hs] at hF
    have HE2 := Lib.hid (HG.out hs)
    clear HE HG hs
    go_wp2_with fail
    refine hF.out.mono ?_
    rintro e w1 ⟨rfl, hb1⟩
    go_wp2_with fail
    exact ⟨⟨k + 1, by omega, by go_num, Lib.hid HE2.out, hB.trans (hb1.mono hB.size)⟩, by simp [intOf]; omega⟩
  ·obtain rfl : k = zs.length := by omega
   have HE := Lib.hid (idxOfF_none (p := fun z : LkT => sEq z.1 nm) 0 (fun j hj => HN.out j hj hj))
   clear HN
   go_wp2_with fail
   go_ret
   exact ⟨ret_int HE.out.symm, hB⟩

set_option maxRecDepth 100000 in
set_option maxHeartbeats 1000000 in
theorem f_rE (z : RuT) (g : Nat) (nm : ByteArray) (w : World) (hg : g < w.heap.size) (hc : w.cell? ⟨g, 1, none⟩ = some (.string nm)) :
  Calls Tryz.prog 153 #[.agg #[.string z.name, .int .i64 z.f, .int .i64 z.t, .int .i64 z.m, .int .i64 z.k, .int .i64 z.wd, .int .i64 z.n, .int .i64 z.a, .int .i64 z.b, .int .i64 z.sv, .string z.letter], .pointer (some ⟨g, 0, none⟩)] w fun e w' => e = .returned (.bool (sEq z.name nm)) ∧ Below w.heap.size w w' := by
 have hb : Below w.heap.size w (w.alloc (.cells #[.string z.name, .int .i64 z.f, .int .i64 z.t, .int .i64 z.m, .int .i64 z.k, .int .i64 z.wd, .int .i64 z.n, .int .i64 z.a, .int .i64 z.b, .int .i64 z.sv, .string z.letter] 70)) := (by repeat (first | exact Below.refl _ _ | assumption | apply Below.drew | apply below_drewN | (refine Below.alloc ?_ (by simp; try omega) _) | (refine Below.setCell ?_ (by simp; try omega) _)))
 have hc2 := (hb.cell (p := ⟨g, 1, none⟩) hg).trans hc
 go_enter Tryz.func153, Tryz.ntmps153
 go_wp2_with fail
 go_ret
 exact ⟨rfl, hb⟩

set_option maxRecDepth 100000 in
set_option maxHeartbeats 1000000 in
theorem s_rE (A : Option Addr) (cap : Nat) (zs : List RuT) (g : Nat) (nm : ByteArray) (w : World) (hA : SlAt w w.heap.size 11 A (zs.map ruC)) (h1 : zs.length ≤ cap) (m1 : cap ≤ maxLen) (hg : g < w.heap.size) (hc : w.cell? ⟨g, 1, none⟩ = some (.string nm)) :
  Calls Tryz.prog 180 #[.slice A zs.length cap, .func (.func 153) #[] #[.pointer (some ⟨g, 0, none⟩)]] w fun e w' => e = .returned (.int .i64 (idxOfF (fun z => sEq z.name nm) zs 0)) ∧ Below w.heap.size w w' := by
 unfold maxLen at m1
 go_enter Tryz.func180, Tryz.ntmps180
 go_wp2_with fail
 go_loopw [8] (fun i wr => ∃ k : Nat, k ≤ zs.length ∧ i = .int .i64 k ∧ Hid (∀ j (hj : j < zs.length), j < k → (fun z : RuT => sEq z.name nm) zs[j] = false) ∧ Below w.heap.size w wr) (fun i _ => zs.length - (intOf i).toNat)
 case atStart => exact ⟨0, Nat.zero_le _, rfl, Lib.hid (fun j hj h => absurd h (by omega)), Below.refl _ _⟩
 case round =>
  obtain ⟨k, hk, rfl, HN, hB⟩ := hrel
  by_cases hlt : k < zs.length
  ·obtain ⟨b, o, rfl, hb, c0, c1, c2, c3, c4, c5, c6, c7, c8, c9, c10⟩ := ru_at (hA.below hB) hlt
   have hz := hB.size
   have hi1 : (0 : Int) ≤ (k : Int) := by omega
   have hi2 : (k : Int) < (zs.length : Int) := by omega
   have hF := Lib.hid (f_rE zs[k] g nm wr (by omega) ((hB.cell (p := ⟨g, 1, none⟩) hg).trans hc))
   have HE := Lib.hid (fun (h : sEq zs[k].name nm = true) => idxOfF_at (p := fun z : RuT => sEq z.name nm) hlt 0 HN.out h)
   have HG := Lib.hid (fun (h : sEq zs[k].name nm = false) j (hj : j < zs.length) (h2 : j < k + 1) => (if h3 : j < k then HN.out j hj h3 else (by obtain rfl : j = k := (by omega); exact h) : (fun z : RuT => sEq z.name nm) zs[j] = false))
   obtain ⟨x, hx⟩ : ∃ x, zs[k] = x := ⟨_, rfl⟩
   simp only [hx] at c0 c1 c2 c3 c4 c5 c6 c7 c8 c9 c10 hF HE HG
   clear hx HN
   cases hs : sEq x.name nm with
   | true =>
    rw [hs] at hF
    have HE2 := Lib.hid (HE.out hs)
    clear HE HG hs
    go_wp2_with fail
    refine hF.out.mono ?_
    rintro e w1 ⟨rfl, hb1⟩
    go_wp2_with fail
    go_ret
    exact ⟨ret_int (by rw [HE2.out]; omega), hB.trans (hb1.mono hB.size)⟩
   | false =>
    rw [hs] at hF
    have HE2 := Lib.hid (HG.out hs)
    clear HE HG hs
    go_wp2_with fail
    refine hF.out.mono ?_
    rintro e w1 ⟨rfl, hb1⟩
    go_wp2_with fail
    exact ⟨⟨k + 1, by omega, by go_num, Lib.hid HE2.out, hB.trans (hb1.mono hB.size)⟩, by simp [intOf]; omega⟩
  ·obtain rfl : k = zs.length := by omega
   have HE := Lib.hid (idxOfF_none (p := fun z : RuT => sEq z.name nm) 0 (fun j hj => HN.out j hj hj))
   clear HN
   go_wp2_with fail
   go_ret
   exact ⟨ret_int HE.out.symm, hB⟩

set_option maxRecDepth 100000 in
theorem t_zZ (A : Option Addr) (cap : Nat) (zs : List ZoT) (g : Nat) (nm : ByteArray) (w : World) (hA : SlAt w w.heap.size 2 A (zs.map zoC)) (h1 : zs.length ≤ cap) (m1 : cap ≤ maxLen) (hg : g < w.heap.size) (hc : w.cell? ⟨g, 0, none⟩ = some (.string nm)) :
  Calls Tryz.prog 103 #[.slice A zs.length cap, .func (.func 104) #[] #[.pointer (some ⟨g, 0, none⟩)]] w fun e w' => e = .returned (.bool (zs.any (fun z => sEq z.name nm))) ∧ Below w.heap.size w w' := by
 have HI := Lib.hid (s_zZ A cap zs g nm w hA h1 m1 hg hc)
 have HQ := Lib.hid (any_idx (p := fun z : ZoT => sEq z.name nm) zs 0)
 obtain ⟨q, hq⟩ : ∃ q, idxOfF (fun z : ZoT => sEq z.name nm) zs 0 = q := ⟨_, rfl⟩
 rw [hq] at HI HQ
 go_enter Tryz.func103, Tryz.ntmps103
 go_wp2_with fail
 refine HI.out.mono ?_
 rintro e w1 ⟨rfl, hb⟩
 go_wp2_with fail
 go_ret
 exact ⟨ret_bool HQ.out, hb⟩

set_option maxRecDepth 100000 in
theorem t_zL (A : Option Addr) (cap : Nat) (zs : List ZoT) (g : Nat) (nm : ByteArray) (w : World) (hA : SlAt w w.heap.size 2 A (zs.map zoC)) (h1 : zs.length ≤ cap) (m1 : cap ≤ maxLen) (hg : g < w.heap.size) (hc : w.cell? ⟨g, 0, none⟩ = some (.string nm)) :
  Calls Tryz.prog 103 #[.slice A zs.length cap, .func (.func 107) #[] #[.pointer (some ⟨g, 0, none⟩)]] w fun e w' => e = .returned (.bool (zs.any (fun z => sEq z.name nm))) ∧ Below w.heap.size w w' := by
 have HI := Lib.hid (s_zL A cap zs g nm w hA h1 m1 hg hc)
 have HQ := Lib.hid (any_idx (p := fun z : ZoT => sEq z.name nm) zs 0)
 obtain ⟨q, hq⟩ : ∃ q, idxOfF (fun z : ZoT => sEq z.name nm) zs 0 = q := ⟨_, rfl⟩
 rw [hq] at HI HQ
 go_enter Tryz.func103, Tryz.ntmps103
 go_wp2_with fail
 refine HI.out.mono ?_
 rintro e w1 ⟨rfl, hb⟩
 go_wp2_with fail
 go_ret
 exact ⟨ret_bool HQ.out, hb⟩

set_option maxRecDepth 100000 in
theorem t_lL (A : Option Addr) (cap : Nat) (zs : List LkT) (g : Nat) (nm : ByteArray) (w : World) (hA : SlAt w w.heap.size 2 A (zs.map lkC)) (h1 : zs.length ≤ cap) (m1 : cap ≤ maxLen) (hg : g < w.heap.size) (hc : w.cell? ⟨g, 0, none⟩ = some (.string nm)) :
  Calls Tryz.prog 109 #[.slice A zs.length cap, .func (.func 110) #[] #[.pointer (some ⟨g, 0, none⟩)]] w fun e w' => e = .returned (.bool (zs.any (fun z => sEq z.1 nm))) ∧ Below w.heap.size w w' := by
 have HI := Lib.hid (s_lL A cap zs g nm w hA h1 m1 hg hc)
 have HQ := Lib.hid (any_idx (p := fun z : LkT => sEq z.1 nm) zs 0)
 obtain ⟨q, hq⟩ : ∃ q, idxOfF (fun z : LkT => sEq z.1 nm) zs 0 = q := ⟨_, rfl⟩
 rw [hq] at HI HQ
 go_enter Tryz.func109, Tryz.ntmps109
 go_wp2_with fail
 refine HI.out.mono ?_
 rintro e w1 ⟨rfl, hb⟩
 go_wp2_with fail
 go_ret
 exact ⟨ret_bool HQ.out, hb⟩

set_option maxRecDepth 100000 in
theorem t_rE (A : Option Addr) (cap : Nat) (zs : List RuT) (g : Nat) (nm : ByteArray) (w : World) (hA : SlAt w w.heap.size 11 A (zs.map ruC)) (h1 : zs.length ≤ cap) (m1 : cap ≤ maxLen) (hg : g < w.heap.size) (hc : w.cell? ⟨g, 1, none⟩ = some (.string nm)) :
  Calls Tryz.prog 152 #[.slice A zs.length cap, .func (.func 153) #[] #[.pointer (some ⟨g, 0, none⟩)]] w fun e w' => e = .returned (.bool (zs.any (fun z => sEq z.name nm))) ∧ Below w.heap.size w w' := by
 have HI := Lib.hid (s_rE A cap zs g nm w hA h1 m1 hg hc)
 have HQ := Lib.hid (any_idx (p := fun z : RuT => sEq z.name nm) zs 0)
 obtain ⟨q, hq⟩ : ∃ q, idxOfF (fun z : RuT => sEq z.name nm) zs 0 = q := ⟨_, rfl⟩
 rw [hq] at HI HQ
 go_enter Tryz.func152, Tryz.ntmps152
 go_wp2_with fail
 refine HI.out.mono ?_
 rintro e w1 ⟨rfl, hb⟩
 go_wp2_with fail
 go_ret
 exact ⟨ret_bool HQ.out, hb⟩

end Go.Proofs.YthppifcggmdmoaaGreatDoor

