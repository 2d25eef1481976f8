/- Walk of norm.Same. -/
import Derived.Test.YtgnodiegippkeaaNsB
import Derived.Test.YtgnodiegippkeaaNmE
import Derived.Test.YtgnodiegippkeaaNsP
import Derived.Test.YtgnodiegippkeaaKeep2
import Derived.Deep.RegionHeld3
import Derived.Deep.DrawnRows
import Derived.Deep.Cut
import Derived.Deep.CutRange
namespace Go.Proofs.Ytgnodiegippkeaa
open Go.RowKit
set_option linter.unusedVariables false
set_option linter.unusedSimpArgs false
attribute [local go_sem ↓] Go.wp_at_zero Go.wp_at_succ
theorem ret_t {b c : Bool} (h : b = c) : Ending.returned (.tuple #[.bool b, .int .i64 0]) = Ending.returned (.tuple #[.bool c, .int .i64 0]) := by rw [h]
theorem keepS2_set {w W : World} {b : Nat} {x y z : Value} {c1 c2 : Array Value} (h : (∀ i, W.cell? ⟨w.heap.size, i, none⟩ = c1[i]?) ∧ (∀ i, W.cell? ⟨w.heap.size + 1, i, none⟩ = c2[i]?) ∧ w.heap.size < W.heap.size ∧ w.heap.size + 1 < W.heap.size ∧ Below w.heap.size w W) (hb : w.heap.size + 1 < b) :
    (∀ i, (((W.setCell ⟨b, 0, none⟩ x).setCell ⟨b, 1, none⟩ y).setCell ⟨b, 2, none⟩ z).cell? ⟨w.heap.size, i, none⟩ = c1[i]?) ∧ (∀ i, (((W.setCell ⟨b, 0, none⟩ x).setCell ⟨b, 1, none⟩ y).setCell ⟨b, 2, none⟩ z).cell? ⟨w.heap.size + 1, i, none⟩ = c2[i]?) ∧
      w.heap.size < (((W.setCell ⟨b, 0, none⟩ x).setCell ⟨b, 1, none⟩ y).setCell ⟨b, 2, none⟩ z).heap.size ∧ w.heap.size + 1 < (((W.setCell ⟨b, 0, none⟩ x).setCell ⟨b, 1, none⟩ y).setCell ⟨b, 2, none⟩ z).heap.size ∧ Below w.heap.size w (((W.setCell ⟨b, 0, none⟩ x).setCell ⟨b, 1, none⟩ y).setCell ⟨b, 2, none⟩ z) :=
  ⟨fun i => (far3 (by simp; omega)).trans (h.1 i), fun i => (far3 (by simp; omega)).trans (h.2.1 i), by simpa using h.2.2.1, by simpa using h.2.2.2.1, below3 h.2.2.2.2 (by omega)⟩
theorem keepS2_al {w W : World} {c1 c2 : Array Value} {g1 g2 : Nat} (o : Obj) (h : (∀ i, W.cell? ⟨g1, i, none⟩ = c1[i]?) ∧ (∀ i, W.cell? ⟨g2, i, none⟩ = c2[i]?) ∧ g1 < W.heap.size ∧ g2 < W.heap.size ∧ Below w.heap.size w W) :
    (∀ i, (W.alloc o).cell? ⟨g1, i, none⟩ = c1[i]?) ∧ (∀ i, (W.alloc o).cell? ⟨g2, i, none⟩ = c2[i]?) ∧ g1 < (W.alloc o).heap.size ∧ g2 < (W.alloc o).heap.size ∧ Below w.heap.size w (W.alloc o) := keepS2 h (Below.alloc (Below.refl _ _) (Nat.le_refl _) _)
theorem keepS2_dr {w W : World} {c1 c2 : Array Value} {g1 g2 : Nat} (h : (∀ i, W.cell? ⟨g1, i, none⟩ = c1[i]?) ∧ (∀ i, W.cell? ⟨g2, i, none⟩ = c2[i]?) ∧ g1 < W.heap.size ∧ g2 < W.heap.size ∧ Below w.heap.size w W) :
    (∀ i, W.drew.cell? ⟨g1, i, none⟩ = c1[i]?) ∧ (∀ i, W.drew.cell? ⟨g2, i, none⟩ = c2[i]?) ∧ g1 < W.drew.heap.size ∧ g2 < W.drew.heap.size ∧ Below w.heap.size w W.drew := keepS2 h ((Below.refl _ _).drew)
/-- the cells of the blocks from B on, of those that were there, are as they were -/
def Offs (W5 : World) (B : Nat) (W : World) : Prop := W5.heap.size ≤ W.heap.size ∧ ∀ a : Addr, B ≤ a.block → a.block < W5.heap.size → W.cell? a = W5.cell? a
theorem Offs.refl (W : World) (B : Nat) : Offs W B W := ⟨Nat.le_refl _, fun _ _ _ => rfl⟩
theorem Offs.step {W5 W W2 : World} {B : Nat} (h : Offs W5 B W) (hb : Below W.heap.size W W2) : Offs W5 B W2 := ⟨Nat.le_trans h.1 hb.size, fun a h1 h2 => (hb.cell (Nat.lt_of_lt_of_le h2 h.1)).trans (h.2 a h1 h2)⟩
theorem Offs.alloc {W5 W : World} {B : Nat} (o : Obj) (h : Offs W5 B W) : Offs W5 B (W.alloc o) := h.step (Below.alloc (Below.refl _ _) (Nat.le_refl _) _)
theorem Offs.set3 {W5 W : World} {B b : Nat} {x y z : Value} (h : Offs W5 B W) (hb : b < B ∨ W5.heap.size ≤ b) : Offs W5 B (((W.setCell ⟨b, 0, none⟩ x).setCell ⟨b, 1, none⟩ y).setCell ⟨b, 2, none⟩ z) :=
  ⟨by simpa using h.1, fun a h1 h2 => (far3 (by omega)).trans (h.2 a h1 h2)⟩
theorem TabAt.offs {W5 W : World} {B cT cC : Nat} {A C : Option Addr} {ts : List Ty} {cs : List Ch} (h : TabAt W5 A C cT cC ts cs) (hA : Above B A) (hC : Above B C) (ho : Offs W5 B W) : TabAt W A C cT cC ts cs := by
  refine ⟨?_, ?_, h.cT, h.mT, h.cC, h.mC, h.names⟩
  · intro hn
    obtain ⟨b, o, h1, h2, h3⟩ := h.T hn
    exact ⟨b, o, h1, Nat.lt_of_lt_of_le h2 ho.1, fun k hk j hj => (ho.2 _ (by have := hA _ h1; exact this) h2).trans (h3 k hk j hj)⟩
  · intro hn
    obtain ⟨b, o, h1, h2, h3⟩ := h.C hn
    exact ⟨b, o, h1, Nat.lt_of_lt_of_le h2 ho.1, fun k hk j hj => (ho.2 _ (by have := hC _ h1; exact this) h2).trans (h3 k hk j hj)⟩
theorem Blk.set3 {W : World} {b : Nat} {t : TypeId} {u0 u1 u2 x y z : Value} (h : Blk W b t #[u0, u1, u2]) : Blk (((W.setCell ⟨b, 0, none⟩ x).setCell ⟨b, 1, none⟩ y).setCell ⟨b, 2, none⟩ z) b t #[x, y, z] := ((h.set 0 x).set 1 y).set 2 z
theorem Blk.far3 {W : World} {b g : Nat} {t : TypeId} {cs : Array Value} {x y z : Value} (h : Blk W b t cs) (hne : b ≠ g) : Blk (((W.setCell ⟨g, 0, none⟩ x).setCell ⟨g, 1, none⟩ y).setCell ⟨g, 2, none⟩ z) b t cs :=
  ((h.far (a := ⟨g, 0, none⟩) hne x).far (a := ⟨g, 1, none⟩) hne y).far (a := ⟨g, 2, none⟩) hne z
theorem sameFin {w w5 w6 W : World} {B5 B6 b7 b8 cT5 cC5 cT6 cC6 : Nat} {A5 C5 A6 C6 : Option Addr} {ts5 ts6 : List Ty} {cs5 cs6 : List Ch} {R1 R2 R3 R4 G : Prop}
    (hb : R1 ∧ R2 ∧ R3 ∧ R4 ∧ Below w.heap.size w W)
    (HT5 : TabAt w5 A5 C5 cT5 cC5 ts5 cs5) (ha5 : Above B5 A5) (hc5 : Above B5 C5) (HT6 : TabAt w6 A6 C6 cT6 cC6 ts6 cs6) (ha6 : Above B6 A6) (hc6 : Above B6 C6)
    (k7 : Blk W b7 25 #[.slice A5 ts5.length cT5, .int .i64 0, .slice C5 cs5.length cC5]) (k8 : Blk W b8 25 #[.slice A6 ts6.length cT6, .int .i64 0, .slice C6 cs6.length cC6])
    (o5 : Offs w5 B5 W) (o6 : Offs w6 B6 W)
    (fin : ∀ W', W = W' → Bx b7 W' #[.slice A5 ts5.length cT5, .int .i64 0, .slice C5 cs5.length cC5] → Bx b8 W' #[.slice A6 ts6.length cT6, .int .i64 0, .slice C6 cs6.length cC6] →
      TabAt W' A5 C5 cT5 cC5 ts5 cs5 → TabAt W' A6 C6 cT6 cC6 ts6 cs6 → Below w.heap.size w W' → G) : G :=
  fin W rfl k7.bx k8.bx (HT5.offs ha5 hc5 o5) (HT6.offs ha6 hc6 o6) hb.2.2.2.2
set_option maxRecDepth 100000 in
set_option maxHeartbeats 20000000 in
theorem n_Same_ok (A C A2 C2 : Option Addr) (capT capC capT2 capC2 : Nat) (ts : List Ty) (first : Int) (cs : List Ch) (ts2 : List Ty) (first2 : Int) (cs2 : List Ch) (w : World) (H : TabAt w A C capT capC ts cs) (H2 : TabAt w A2 C2 capT2 capC2 ts2 cs2) (h0 : bothE ts first cs ts2 first2 cs2 = 0) (K : TabOk ts first cs) (K2 : TabOk ts2 first2 cs2) :
    Calls Try.prog 17 #[.agg #[.slice A ts.length capT, .int .i64 first, .slice C cs.length capC], .agg #[.slice A2 ts2.length capT2, .int .i64 first2, .slice C2 cs2.length capC2]] w fun e w' => e = .returned (.tuple #[.bool (sameB (normSt ts first cs) (normSt ts2 first2 cs2)), .int .i64 0]) ∧ Below w.heap.size w w' := by
  obtain ⟨s, hs⟩ : ∃ s, normSt ts first cs = s := ⟨_, rfl⟩
  obtain ⟨s2, hs2⟩ : ∃ s, normSt ts2 first2 cs2 = s := ⟨_, rfl⟩
  rw [hs, hs2]
  have HS1 := Lib.hid hs
  have HS2 := Lib.hid hs2
  clear hs hs2
  obtain ⟨q1, q2, q4, q5, hb0⟩ := boxes2 w #[.slice A ts.length capT, .int .i64 first, .slice C cs.length capC] #[.slice A2 ts2.length capT2, .int .i64 first2, .slice C2 cs2.length capC2] 25 25
  have X1 := Lib.hid (show Bx w.heap.size _ _ from ⟨q1, fun i => by rw [frozen_old _ _ _ (by rw [size_alloc]; exact Nat.lt_succ_self _), frozen_new _ _ _ _ _ rfl], by rw [q5]; omega⟩)
  have X2 := Lib.hid (show Bx (w.heap.size + 1) _ _ from ⟨q2, q4, by rw [q5]; omega⟩)
  have HC := Lib.hid (n_check A C A2 C2 capT capC capT2 capC2 ts first cs ts2 first2 cs2 _ (H.below hb0) (H2.below hb0))
  rw [h0] at HC
  clear q4 q5 h0
  go_enter Try.func17, Try.ntmps17
  go_wp2_with fail
  refine HC.out.mono ?_
  rintro e w1 ⟨rfl, hb⟩
  have x1 := X1.out.step hb
  have x2 := X2.out.step hb
  have hb1 := hb0.trans (hb.mono hb0.size)
  clear hb HC X1 X2 q1 q2
  go_upto_region 4 with fail
  go_cut [7, 8] from 15 to 18 (fun p q wx => ∃ b7 b8 A5 C5 cT5 cC5 A6 C6 cT6 cC6, p = .pointer (some ⟨b7, 0, none⟩) ∧ q = .pointer (some ⟨b8, 0, none⟩) ∧ Bx b7 wx #[.slice A5 s.ts.length cT5, .int .i64 0, .slice C5 s.cs.length cC5] ∧ Bx b8 wx #[.slice A6 s2.ts.length cT6, .int .i64 0, .slice C6 s2.cs.length cC6] ∧
      TabAt wx A5 C5 cT5 cC5 s.ts s.cs ∧ TabAt wx A6 C6 cT6 cC6 s2.ts s2.cs ∧ Below w.heap.size w wx)
  case first =>
    have hS : (∀ i, w1.drew.cell? ⟨w.heap.size, i, none⟩ = (#[.slice A ts.length capT, .int .i64 first, .slice C cs.length capC] : Array Value)[i]?) ∧ (∀ i, w1.drew.cell? ⟨w.heap.size + 1, i, none⟩ = (#[.slice A2 ts2.length capT2, .int .i64 first2, .slice C2 cs2.length capC2] : Array Value)[i]?) ∧ w.heap.size < w1.drew.heap.size ∧ w.heap.size + 1 < w1.drew.heap.size ∧ Below w.heap.size w w1.drew := ⟨x1.1, x2.1, x1.2.2, x2.2.2, hb1.drew⟩
    have HF1 := Lib.hid (fun (W : World) (hb : (∀ i, W.cell? ⟨w.heap.size, i, none⟩ = (#[.slice A ts.length capT, .int .i64 first, .slice C cs.length capC] : Array Value)[i]?) ∧ (∀ i, W.cell? ⟨w.heap.size + 1, i, none⟩ = (#[.slice A2 ts2.length capT2, .int .i64 first2, .slice C2 cs2.length capC2] : Array Value)[i]?) ∧ w.heap.size < W.heap.size ∧ w.heap.size + 1 < W.heap.size ∧ Below w.heap.size w W) (args : Array Value) (he : args = #[.agg #[.slice A ts.length capT, .int .i64 first, .slice C cs.length capC]]) => (show Calls Try.prog 45 args W (TabPost (normSt ts first cs) W) by rw [he]; exact n_Of A C capT capC ts first cs W (H.below hb.2.2.2.2) K))
    have HF2 := Lib.hid (fun (W : World) (hb : (∀ i, W.cell? ⟨w.heap.size, i, none⟩ = (#[.slice A ts.length capT, .int .i64 first, .slice C cs.length capC] : Array Value)[i]?) ∧ (∀ i, W.cell? ⟨w.heap.size + 1, i, none⟩ = (#[.slice A2 ts2.length capT2, .int .i64 first2, .slice C2 cs2.length capC2] : Array Value)[i]?) ∧ w.heap.size < W.heap.size ∧ w.heap.size + 1 < W.heap.size ∧ Below w.heap.size w W) (args : Array Value) (he : args = #[.agg #[.slice A2 ts2.length capT2, .int .i64 first2, .slice C2 cs2.length capC2]]) => (show Calls Try.prog 45 args W (TabPost (normSt ts2 first2 cs2) W) by rw [he]; exact n_Of A2 C2 capT2 capC2 ts2 first2 cs2 W (H2.below hb.2.2.2.2) K2))
    rw [HS1.out] at HF1
    rw [HS2.out] at HF2
    clear x1 x2
    refine wp_region_noPanic ?_
    refine wp_region_held_drew (S := fun W' : World => (∀ i, W'.cell? ⟨w.heap.size, i, none⟩ = (#[.slice A ts.length capT, .int .i64 first, .slice C cs.length capC] : Array Value)[i]?) ∧ (∀ i, W'.cell? ⟨w.heap.size + 1, i, none⟩ = (#[.slice A2 ts2.length capT2, .int .i64 first2, .slice C2 cs2.length capC2] : Array Value)[i]?) ∧ w.heap.size < W'.heap.size ∧ w.heap.size + 1 < W'.heap.size ∧ Below w.heap.size w W') (by kernel_rfl) hS (fun hHeld => ?_)
    refine wpAnyH_take (i := 0) (v := ?_) rfl (by kernel_rfl) (by kernel_rfl) (by kernel_rfl) (fun _ _ _ h => h) (Or.inl ⟨by rfl, ?_⟩) (by assumption) ?_
    rotate_left
    · intro wq hSw
      try dsimp only at hSw
      go_simp
      try with_reducible rfl
    try simp only [Act.put, List.getElem_toArray, List.getElem_cons_succ, List.getElem_cons_zero, List.setIfInBounds_toArray, List.set_cons_zero, List.set_cons_succ]
    refine wpAnyH_take (i := 2) (v := ?_) rfl (by kernel_rfl) (by kernel_rfl) (by kernel_rfl) (fun _ _ _ h => h) (Or.inl ⟨by rfl, ?_⟩) (by assumption) ?_
    rotate_left
    · intro wq hSw
      try dsimp only at hSw
      go_simp
      try with_reducible rfl
    try simp only [Act.put, List.getElem_toArray, List.getElem_cons_succ, List.getElem_cons_zero, List.setIfInBounds_toArray, List.set_cons_zero, List.set_cons_succ]
    obtain ⟨v0, hv0⟩ : ∃ x, w1.drew = x := ⟨_, rfl⟩
    rw [hv0] at hHeld ⊢
    clear hv0 hS
    refine wpAnyH_ready (rs := [1, 4, 5]) (by kernel_rfl) (by simp) ?_
    refine AllReadyH.cons rfl (fun K hK => ?_) ?_
    · skip
      go_simp
      go_at_call 45
      refine (HF1.out v0 hHeld _ rfl).mono ?_
      rintro e w5 ⟨A5, C5, cT5, cC5, rfl, HT5, ha5, hc5, hb5⟩
      have hHeld2 := keepS2 hHeld hb5
      try go_wp2_with fail
      refine hK.out _ _ hHeld2 (fun _ => ?_)
      clear hK K
      try simp only [Act.put, List.getElem_toArray, List.getElem_cons_succ, List.getElem_cons_zero, List.setIfInBounds_toArray, List.set_cons_zero, List.set_cons_succ]
      have o5 := Offs.refl w5 v0.heap.size
      obtain ⟨B5, hB5⟩ : ∃ x, v0.heap.size = x := ⟨_, rfl⟩
      rw [hB5] at o5 ha5 hc5
      clear hB5 hb5 hHeld
      have hHeld := hHeld2
      clear hHeld2
      refine wpAnyH_ready (rs := [3, 4, 5]) (by kernel_rfl) (by simp) ?_
      refine AllReadyH.cons rfl (fun K hK => ?_) ?_
      · skip
        go_simp
        go_at_call 45
        refine (HF2.out w5 hHeld _ rfl).mono ?_
        rintro e w6 ⟨A6, C6, cT6, cC6, rfl, HT6, ha6, hc6, hb6⟩
        have hHeld2 := keepS2 hHeld hb6
        try go_wp2_with fail
        refine hK.out _ _ hHeld2 (fun _ => ?_)
        clear hK K
        try simp only [Act.put, List.getElem_toArray, List.getElem_cons_succ, List.getElem_cons_zero, List.setIfInBounds_toArray, List.set_cons_zero, List.set_cons_succ]
        have o6 := Offs.refl w6 w5.heap.size
        replace o5 := o5.step hb6
        obtain ⟨B6, hB6⟩ : ∃ x, w5.heap.size = x := ⟨_, rfl⟩
        rw [hB6] at o6 ha6 hc6
        clear hB6 hb6 hHeld
        have hHeld := hHeld2
        clear hHeld2
        refine wpAnyH_ready (rs := [4, 5]) (by kernel_rfl) (by simp) ?_
        refine AllReadyH.cons rfl (fun K hK => ?_) ?_
        · skip
          go_simp
          refine hK.out _ _ (keepS2_al _ hHeld) (fun hHeld2 => ?_)
          clear hK K
          try simp only [Act.put, List.getElem_toArray, List.getElem_cons_succ, List.getElem_cons_zero, List.setIfInBounds_toArray, List.set_cons_zero, List.set_cons_succ]
          have k7 := Blk.new w6 #[.slice none 0 0, .int .i64 0, .slice none 0 0] 25
          have l7 := hHeld.2.2.2.1
          have zp75 := o5.1
          replace o5 := o5.alloc (.cells #[.slice none 0 0, .int .i64 0, .slice none 0 0] 25)
          have zp76 := o6.1
          replace o6 := o6.alloc (.cells #[.slice none 0 0, .int .i64 0, .slice none 0 0] 25)
          obtain ⟨v3, hv3⟩ : ∃ x, w6.alloc (.cells #[.slice none 0 0, .int .i64 0, .slice none 0 0] 25) = x := ⟨_, rfl⟩
          rw [hv3] at k7 hHeld2 o5 o6 ⊢
          obtain ⟨b7, hb7⟩ : ∃ x, w6.heap.size = x := ⟨_, rfl⟩
          rw [hb7] at k7 l7 ⊢
          have p75 : b7 < B5 ∨ w5.heap.size ≤ b7 := Or.inr (by rw [← hb7]; exact zp75)
          clear zp75
          have p76 : b7 < B6 ∨ w6.heap.size ≤ b7 := Or.inr (by rw [← hb7]; exact zp76)
          clear zp76
          clear hv3 hb7 hHeld
          have hHeld := hHeld2
          clear hHeld2
          refine wpAnyH_ready (rs := [5]) (by kernel_rfl) (by simp) ?_
          refine AllReadyH.cons rfl (fun K hK => ?_) AllReadyH.nil
          go_simp
          refine hK.out _ _ (keepS2_al _ hHeld) (fun hHeld2 => ?_)
          clear hK K
          try simp only [Act.put, List.getElem_toArray, List.getElem_cons_succ, List.getElem_cons_zero, List.setIfInBounds_toArray, List.set_cons_zero, List.set_cons_succ]
          have k8 := Blk.new v3 #[.slice none 0 0, .int .i64 0, .slice none 0 0] 25
          have l8 := hHeld.2.2.2.1
          have n78 : v3.heap.size ≠ b7 := by have := k7.lt; omega
          replace k7 := k7.alloc (.cells #[.slice none 0 0, .int .i64 0, .slice none 0 0] 25)
          have zp85 := o5.1
          replace o5 := o5.alloc (.cells #[.slice none 0 0, .int .i64 0, .slice none 0 0] 25)
          have zp86 := o6.1
          replace o6 := o6.alloc (.cells #[.slice none 0 0, .int .i64 0, .slice none 0 0] 25)
          obtain ⟨v4, hv4⟩ : ∃ x, v3.alloc (.cells #[.slice none 0 0, .int .i64 0, .slice none 0 0] 25) = x := ⟨_, rfl⟩
          rw [hv4] at k8 hHeld2 k7 o5 o6 ⊢
          obtain ⟨b8, hb8⟩ : ∃ x, v3.heap.size = x := ⟨_, rfl⟩
          rw [hb8] at k8 l8 n78 ⊢
          have p85 : b8 < B5 ∨ w5.heap.size ≤ b8 := Or.inr (by rw [← hb8]; exact zp85)
          clear zp85
          have p86 : b8 < B6 ∨ w6.heap.size ≤ b8 := Or.inr (by rw [← hb8]; exact zp86)
          clear zp86
          clear hv4 hb8 hHeld
          have hHeld := hHeld2
          clear hHeld2
          refine wpAnyH_ready (rs := [6]) (by kernel_rfl) (by simp) ?_
          refine AllReadyH.cons rfl (fun K hK => ?_) AllReadyH.nil
          have q1 := k7.cell
          have q2 := k7.frz
          have q3 := k7.lt
          go_simp
          refine hK.out _ _ (keepS2_set hHeld l7) (fun hHeld2 => ?_)
          clear hK K q1 q2 q3
          try simp only [Act.put, List.getElem_toArray, List.getElem_cons_succ, List.getElem_cons_zero, List.setIfInBounds_toArray, List.set_cons_zero, List.set_cons_succ]
          replace k7 := Blk.set3 (x := (.slice A5 s.ts.length cT5)) (y := (.int .i64 0)) (z := (.slice C5 s.cs.length cC5)) k7
          replace k8 := Blk.far3 (x := (.slice A5 s.ts.length cT5)) (y := (.int .i64 0)) (z := (.slice C5 s.cs.length cC5)) k8 n78
          replace o5 := Offs.set3 (x := (.slice A5 s.ts.length cT5)) (y := (.int .i64 0)) (z := (.slice C5 s.cs.length cC5)) o5 p75
          replace o6 := Offs.set3 (x := (.slice A5 s.ts.length cT5)) (y := (.int .i64 0)) (z := (.slice C5 s.cs.length cC5)) o6 p76
          clear hHeld
          have hHeld := hHeld2
          clear hHeld2
          refine wpAnyH_ready (rs := [7]) (by kernel_rfl) (by simp) ?_
          refine AllReadyH.cons rfl (fun K hK => ?_) AllReadyH.nil
          have q1 := k8.cell
          have q2 := k8.frz
          have q3 := k8.lt
          go_simp
          refine hK.out _ _ (keepS2_set hHeld l8) (fun hHeld2 => ?_)
          clear hK K q1 q2 q3
          try simp only [Act.put, List.getElem_toArray, List.getElem_cons_succ, List.getElem_cons_zero, List.setIfInBounds_toArray, List.set_cons_zero, List.set_cons_succ]
          replace k8 := Blk.set3 (x := (.slice A6 s2.ts.length cT6)) (y := (.int .i64 0)) (z := (.slice C6 s2.cs.length cC6)) k8
          replace k7 := Blk.far3 (x := (.slice A6 s2.ts.length cT6)) (y := (.int .i64 0)) (z := (.slice C6 s2.cs.length cC6)) k7 n78.symm
          replace o5 := Offs.set3 (x := (.slice A6 s2.ts.length cT6)) (y := (.int .i64 0)) (z := (.slice C6 s2.cs.length cC6)) o5 p85
          replace o6 := Offs.set3 (x := (.slice A6 s2.ts.length cT6)) (y := (.int .i64 0)) (z := (.slice C6 s2.cs.length cC6)) o6 p86
          clear hHeld
          have hHeld := hHeld2
          clear hHeld2
          refine wpAnyH_done (by kernel_rfl) ?_ _
          refine NoPanic.normal ?_
          have F7 := Lib.hid k7.bx
          have F8 := Lib.hid k8.bx
          have T5 := Lib.hid (HT5.offs ha5 hc5 o5)
          have T6 := Lib.hid (HT6.offs ha6 hc6 o6)
          have HBF := Lib.hid hHeld.2.2.2.2
          clear hHeld k7 k8 o5 o6 HT5 HT6 ha5 hc5 ha6 hc6 HF1 HF2
          go_wp2_with fail
          go_meet
          exact ⟨_, _, _, _, _, _, _, _, _, _, rfl, rfl, F7.out, F8.out, T5.out, T6.out, HBF.out⟩
        refine AllReadyH.cons rfl (fun K hK => ?_) AllReadyH.nil
        go_simp
        refine hK.out _ _ (keepS2_al _ hHeld) (fun hHeld2 => ?_)
        clear hK K
        try simp only [Act.put, List.getElem_toArray, List.getElem_cons_succ, List.getElem_cons_zero, List.setIfInBounds_toArray, List.set_cons_zero, List.set_cons_succ]
        have k8 := Blk.new w6 #[.slice none 0 0, .int .i64 0, .slice none 0 0] 25
        have l8 := hHeld.2.2.2.1
        have zp85 := o5.1
        replace o5 := o5.alloc (.cells #[.slice none 0 0, .int .i64 0, .slice none 0 0] 25)
        have zp86 := o6.1
        replace o6 := o6.alloc (.cells #[.slice none 0 0, .int .i64 0, .slice none 0 0] 25)
        obtain ⟨v3, hv3⟩ : ∃ x, w6.alloc (.cells #[.slice none 0 0, .int .i64 0, .slice none 0 0] 25) = x := ⟨_, rfl⟩
        rw [hv3] at k8 hHeld2 o5 o6 ⊢
        obtain ⟨b8, hb8⟩ : ∃ x, w6.heap.size = x := ⟨_, rfl⟩
        rw [hb8] at k8 l8 ⊢
        have p85 : b8 < B5 ∨ w5.heap.size ≤ b8 := Or.inr (by rw [← hb8]; exact zp85)
        clear zp85
        have p86 : b8 < B6 ∨ w6.heap.size ≤ b8 := Or.inr (by rw [← hb8]; exact zp86)
        clear zp86
        clear hv3 hb8 hHeld
        have hHeld := hHeld2
        clear hHeld2
        refine wpAnyH_ready (rs := [4]) (by kernel_rfl) (by simp) ?_
        refine AllReadyH.cons rfl (fun K hK => ?_) AllReadyH.nil
        go_simp
        refine hK.out _ _ (keepS2_al _ hHeld) (fun hHeld2 => ?_)
        clear hK K
        try simp only [Act.put, List.getElem_toArray, List.getElem_cons_succ, List.getElem_cons_zero, List.setIfInBounds_toArray, List.set_cons_zero, List.set_cons_succ]
        have k7 := Blk.new v3 #[.slice none 0 0, .int .i64 0, .slice none 0 0] 25
        have l7 := hHeld.2.2.2.1
        have n78 : v3.heap.size ≠ b8 := by have := k8.lt; omega
        replace k8 := k8.alloc (.cells #[.slice none 0 0, .int .i64 0, .slice none 0 0] 25)
        have zp75 := o5.1
        replace o5 := o5.alloc (.cells #[.slice none 0 0, .int .i64 0, .slice none 0 0] 25)
        have zp76 := o6.1
        replace o6 := o6.alloc (.cells #[.slice none 0 0, .int .i64 0, .slice none 0 0] 25)
        obtain ⟨v4, hv4⟩ : ∃ x, v3.alloc (.cells #[.slice none 0 0, .int .i64 0, .slice none 0 0] 25) = x := ⟨_, rfl⟩
        rw [hv4] at k7 hHeld2 k8 o5 o6 ⊢
        obtain ⟨b7, hb7⟩ : ∃ x, v3.heap.size = x := ⟨_, rfl⟩
        rw [hb7] at k7 l7 n78 ⊢
        have p75 : b7 < B5 ∨ w5.heap.size ≤ b7 := Or.inr (by rw [← hb7]; exact zp75)
        clear zp75
        have p76 : b7 < B6 ∨ w6.heap.size ≤ b7 := Or.inr (by rw [← hb7]; exact zp76)
        clear zp76
        clear hv4 hb7 hHeld
        have hHeld := hHeld2
        clear hHeld2
        refine wpAnyH_ready (rs := [6]) (by kernel_rfl) (by simp) ?_
        refine AllReadyH.cons rfl (fun K hK => ?_) AllReadyH.nil
        have q1 := k7.cell
        have q2 := k7.frz
        have q3 := k7.lt
        go_simp
        refine hK.out _ _ (keepS2_set hHeld l7) (fun hHeld2 => ?_)
        clear hK K q1 q2 q3
        try simp only [Act.put, List.getElem_toArray, List.getElem_cons_succ, List.getElem_cons_zero, List.setIfInBounds_toArray, List.set_cons_zero, List.set_cons_succ]
        replace k7 := Blk.set3 (x := (.slice A5 s.ts.length cT5)) (y := (.int .i64 0)) (z := (.slice C5 s.cs.length cC5)) k7
        replace k8 := Blk.far3 (x := (.slice A5 s.ts.length cT5)) (y := (.int .i64 0)) (z := (.slice C5 s.cs.length cC5)) k8 n78.symm
        replace o5 := Offs.set3 (x := (.slice A5 s.ts.length cT5)) (y := (.int .i64 0)) (z := (.slice C5 s.cs.length cC5)) o5 p75
        replace o6 := Offs.set3 (x := (.slice A5 s.ts.length cT5)) (y := (.int .i64 0)) (z := (.slice C5 s.cs.length cC5)) o6 p76
        clear hHeld
        have hHeld := hHeld2
        clear hHeld2
        refine wpAnyH_ready (rs := [7]) (by kernel_rfl) (by simp) ?_
        refine AllReadyH.cons rfl (fun K hK => ?_) AllReadyH.nil
        have q1 := k8.cell
        have q2 := k8.frz
        have q3 := k8.lt
        go_simp
        refine hK.out _ _ (keepS2_set hHeld l8) (fun hHeld2 => ?_)
        clear hK K q1 q2 q3
        try simp only [Act.put, List.getElem_toArray, List.getElem_cons_succ, List.getElem_cons_zero, List.setIfInBounds_toArray, List.set_cons_zero, List.set_cons_succ]
        replace k8 := Blk.set3 (x := (.slice A6 s2.ts.length cT6)) (y := (.int .i64 0)) (z := (.slice C6 s2.cs.length cC6)) k8
        replace k7 := Blk.far3 (x := (.slice A6 s2.ts.length cT6)) (y := (.int .i64 0)) (z := (.slice C6 s2.cs.length cC6)) k7 n78
        replace o5 := Offs.set3 (x := (.slice A6 s2.ts.length cT6)) (y := (.int .i64 0)) (z := (.slice C6 s2.cs.length cC6)) o5 p85
        replace o6 := Offs.set3 (x := (.slice A6 s2.ts.length cT6)) (y := (.int .i64 0)) (z := (.slice C6 s2.cs.length cC6)) o6 p86
        clear hHeld
        have hHeld := hHeld2
        clear hHeld2
        refine wpAnyH_done (by kernel_rfl) ?_ _
        refine NoPanic.normal ?_
        have F7 := Lib.hid k7.bx
        have F8 := Lib.hid k8.bx
        have T5 := Lib.hid (HT5.offs ha5 hc5 o5)
        have T6 := Lib.hid (HT6.offs ha6 hc6 o6)
        have HBF := Lib.hid hHeld.2.2.2.2
        clear hHeld k7 k8 o5 o6 HT5 HT6 ha5 hc5 ha6 hc6 HF1 HF2
        go_wp2_with fail
        go_meet
        exact ⟨_, _, _, _, _, _, _, _, _, _, rfl, rfl, F7.out, F8.out, T5.out, T6.out, HBF.out⟩
      refine AllReadyH.cons rfl (fun K hK => ?_) ?_
      · skip
        go_simp
        refine hK.out _ _ (keepS2_al _ hHeld) (fun hHeld2 => ?_)
        clear hK K
        try simp only [Act.put, List.getElem_toArray, List.getElem_cons_succ, List.getElem_cons_zero, List.setIfInBounds_toArray, List.set_cons_zero, List.set_cons_succ]
        have k7 := Blk.new w5 #[.slice none 0 0, .int .i64 0, .slice none 0 0] 25
        have l7 := hHeld.2.2.2.1
        have zp75 := o5.1
        replace o5 := o5.alloc (.cells #[.slice none 0 0, .int .i64 0, .slice none 0 0] 25)
        obtain ⟨v2, hv2⟩ : ∃ x, w5.alloc (.cells #[.slice none 0 0, .int .i64 0, .slice none 0 0] 25) = x := ⟨_, rfl⟩
        rw [hv2] at k7 hHeld2 o5 ⊢
        obtain ⟨b7, hb7⟩ : ∃ x, w5.heap.size = x := ⟨_, rfl⟩
        rw [hb7] at k7 l7 ⊢
        have p75 : b7 < B5 ∨ w5.heap.size ≤ b7 := Or.inr (by rw [← hb7]; exact zp75)
        clear zp75
        clear hv2 hb7 hHeld
        have hHeld := hHeld2
        clear hHeld2
        refine wpAnyH_ready (rs := [3, 5]) (by kernel_rfl) (by simp) ?_
        refine AllReadyH.cons rfl (fun K hK => ?_) ?_
        · skip
          go_simp
          go_at_call 45
          refine (HF2.out v2 hHeld _ rfl).mono ?_
          rintro e w6 ⟨A6, C6, cT6, cC6, rfl, HT6, ha6, hc6, hb6⟩
          have hHeld2 := keepS2 hHeld hb6
          try go_wp2_with fail
          refine hK.out _ _ hHeld2 (fun _ => ?_)
          clear hK K
          try simp only [Act.put, List.getElem_toArray, List.getElem_cons_succ, List.getElem_cons_zero, List.setIfInBounds_toArray, List.set_cons_zero, List.set_cons_succ]
          have o6 := Offs.refl w6 v2.heap.size
          have p76 : b7 < v2.heap.size ∨ w6.heap.size ≤ b7 := Or.inl k7.lt
          replace k7 := k7.step hb6
          replace o5 := o5.step hb6
          obtain ⟨B6, hB6⟩ : ∃ x, v2.heap.size = x := ⟨_, rfl⟩
          rw [hB6] at o6 ha6 hc6 p76
          clear hB6 hb6 hHeld
          have hHeld := hHeld2
          clear hHeld2
          refine wpAnyH_ready (rs := [5]) (by kernel_rfl) (by simp) ?_
          refine AllReadyH.cons rfl (fun K hK => ?_) AllReadyH.nil
          go_simp
          refine hK.out _ _ (keepS2_al _ hHeld) (fun hHeld2 => ?_)
          clear hK K
          try simp only [Act.put, List.getElem_toArray, List.getElem_cons_succ, List.getElem_cons_zero, List.setIfInBounds_toArray, List.set_cons_zero, List.set_cons_succ]
          have k8 := Blk.new w6 #[.slice none 0 0, .int .i64 0, .slice none 0 0] 25
          have l8 := hHeld.2.2.2.1
          have n78 : w6.heap.size ≠ b7 := by have := k7.lt; omega
          replace k7 := k7.alloc (.cells #[.slice none 0 0, .int .i64 0, .slice none 0 0] 25)
          have zp85 := o5.1
          replace o5 := o5.alloc (.cells #[.slice none 0 0, .int .i64 0, .slice none 0 0] 25)
          have zp86 := o6.1
          replace o6 := o6.alloc (.cells #[.slice none 0 0, .int .i64 0, .slice none 0 0] 25)
          obtain ⟨v4, hv4⟩ : ∃ x, w6.alloc (.cells #[.slice none 0 0, .int .i64 0, .slice none 0 0] 25) = x := ⟨_, rfl⟩
          rw [hv4] at k8 hHeld2 k7 o5 o6 ⊢
          obtain ⟨b8, hb8⟩ : ∃ x, w6.heap.size = x := ⟨_, rfl⟩
          rw [hb8] at k8 l8 n78 ⊢
          have p85 : b8 < B5 ∨ w5.heap.size ≤ b8 := Or.inr (by rw [← hb8]; exact zp85)
          clear zp85
          have p86 : b8 < B6 ∨ w6.heap.size ≤ b8 := Or.inr (by rw [← hb8]; exact zp86)
          clear zp86
          clear hv4 hb8 hHeld
          have hHeld := hHeld2
          clear hHeld2
          refine wpAnyH_ready (rs := [6]) (by kernel_rfl) (by simp) ?_
          refine AllReadyH.cons rfl (fun K hK => ?_) AllReadyH.nil
          have q1 := k7.cell
          have q2 := k7.frz
          have q3 := k7.lt
          go_simp
          refine hK.out _ _ (keepS2_set hHeld l7) (fun hHeld2 => ?_)
          clear hK K q1 q2 q3
          try simp only [Act.put, List.getElem_toArray, List.getElem_cons_succ, List.getElem_cons_zero, List.setIfInBounds_toArray, List.set_cons_zero, List.set_cons_succ]
          replace k7 := Blk.set3 (x := (.slice A5 s.ts.length cT5)) (y := (.int .i64 0)) (z := (.slice C5 s.cs.length cC5)) k7
          replace k8 := Blk.far3 (x := (.slice A5 s.ts.length cT5)) (y := (.int .i64 0)) (z := (.slice C5 s.cs.length cC5)) k8 n78
          replace o5 := Offs.set3 (x := (.slice A5 s.ts.length cT5)) (y := (.int .i64 0)) (z := (.slice C5 s.cs.length cC5)) o5 p75
          replace o6 := Offs.set3 (x := (.slice A5 s.ts.length cT5)) (y := (.int .i64 0)) (z := (.slice C5 s.cs.length cC5)) o6 p76
          clear hHeld
          have hHeld := hHeld2
          clear hHeld2
          refine wpAnyH_ready (rs := [7]) (by kernel_rfl) (by simp) ?_
          refine AllReadyH.cons rfl (fun K hK => ?_) AllReadyH.nil
          have q1 := k8.cell
          have q2 := k8.frz
          have q3 := k8.lt
          go_simp
          refine hK.out _ _ (keepS2_set hHeld l8) (fun hHeld2 => ?_)
          clear hK K q1 q2 q3
          try simp only [Act.put, List.getElem_toArray, List.getElem_cons_succ, List.getElem_cons_zero, List.setIfInBounds_toArray, List.set_cons_zero, List.set_cons_succ]
          replace k8 := Blk.set3 (x := (.slice A6 s2.ts.length cT6)) (y := (.int .i64 0)) (z := (.slice C6 s2.cs.length cC6)) k8
          replace k7 := Blk.far3 (x := (.slice A6 s2.ts.length cT6)) (y := (.int .i64 0)) (z := (.slice C6 s2.cs.length cC6)) k7 n78.symm
          replace o5 := Offs.set3 (x := (.slice A6 s2.ts.length cT6)) (y := (.int .i64 0)) (z := (.slice C6 s2.cs.length cC6)) o5 p85
          replace o6 := Offs.set3 (x := (.slice A6 s2.ts.length cT6)) (y := (.int .i64 0)) (z := (.slice C6 s2.cs.length cC6)) o6 p86
          clear hHeld
          have hHeld := hHeld2
          clear hHeld2
          refine wpAnyH_done (by kernel_rfl) ?_ _
          refine NoPanic.normal ?_
          have F7 := Lib.hid k7.bx
          have F8 := Lib.hid k8.bx
          have T5 := Lib.hid (HT5.offs ha5 hc5 o5)
          have T6 := Lib.hid (HT6.offs ha6 hc6 o6)
          have HBF := Lib.hid hHeld.2.2.2.2
          clear hHeld k7 k8 o5 o6 HT5 HT6 ha5 hc5 ha6 hc6 HF1 HF2
          go_wp2_with fail
          go_meet
          exact ⟨_, _, _, _, _, _, _, _, _, _, rfl, rfl, F7.out, F8.out, T5.out, T6.out, HBF.out⟩
        refine AllReadyH.cons rfl (fun K hK => ?_) AllReadyH.nil
        go_simp
        refine hK.out _ _ (keepS2_al _ hHeld) (fun hHeld2 => ?_)
        clear hK K
        try simp only [Act.put, List.getElem_toArray, List.getElem_cons_succ, List.getElem_cons_zero, List.setIfInBounds_toArray, List.set_cons_zero, List.set_cons_succ]
        have k8 := Blk.new v2 #[.slice none 0 0, .int .i64 0, .slice none 0 0] 25
        have l8 := hHeld.2.2.2.1
        have n78 : v2.heap.size ≠ b7 := by have := k7.lt; omega
        replace k7 := k7.alloc (.cells #[.slice none 0 0, .int .i64 0, .slice none 0 0] 25)
        have zp85 := o5.1
        replace o5 := o5.alloc (.cells #[.slice none 0 0, .int .i64 0, .slice none 0 0] 25)
        obtain ⟨v3, hv3⟩ : ∃ x, v2.alloc (.cells #[.slice none 0 0, .int .i64 0, .slice none 0 0] 25) = x := ⟨_, rfl⟩
        rw [hv3] at k8 hHeld2 k7 o5 ⊢
        obtain ⟨b8, hb8⟩ : ∃ x, v2.heap.size = x := ⟨_, rfl⟩
        rw [hb8] at k8 l8 n78 ⊢
        have p85 : b8 < B5 ∨ w5.heap.size ≤ b8 := Or.inr (by rw [← hb8]; exact zp85)
        clear zp85
        clear hv3 hb8 hHeld
        have hHeld := hHeld2
        clear hHeld2
        refine wpAnyH_ready (rs := [3]) (by kernel_rfl) (by simp) ?_
        refine AllReadyH.cons rfl (fun K hK => ?_) AllReadyH.nil
        go_simp
        go_at_call 45
        refine (HF2.out v3 hHeld _ rfl).mono ?_
        rintro e w6 ⟨A6, C6, cT6, cC6, rfl, HT6, ha6, hc6, hb6⟩
        have hHeld2 := keepS2 hHeld hb6
        try go_wp2_with fail
        refine hK.out _ _ hHeld2 (fun _ => ?_)
        clear hK K
        try simp only [Act.put, List.getElem_toArray, List.getElem_cons_succ, List.getElem_cons_zero, List.setIfInBounds_toArray, List.set_cons_zero, List.set_cons_succ]
        have o6 := Offs.refl w6 v3.heap.size
        have p76 : b7 < v3.heap.size ∨ w6.heap.size ≤ b7 := Or.inl k7.lt
        replace k7 := k7.step hb6
        have p86 : b8 < v3.heap.size ∨ w6.heap.size ≤ b8 := Or.inl k8.lt
        replace k8 := k8.step hb6
        replace o5 := o5.step hb6
        obtain ⟨B6, hB6⟩ : ∃ x, v3.heap.size = x := ⟨_, rfl⟩
        rw [hB6] at o6 ha6 hc6 p76 p86
        clear hB6 hb6 hHeld
        have hHeld := hHeld2
        clear hHeld2
        refine wpAnyH_ready (rs := [6]) (by kernel_rfl) (by simp) ?_
        refine AllReadyH.cons rfl (fun K hK => ?_) AllReadyH.nil
        have q1 := k7.cell
        have q2 := k7.frz
        have q3 := k7.lt
        go_simp
        refine hK.out _ _ (keepS2_set hHeld l7) (fun hHeld2 => ?_)
        clear hK K q1 q2 q3
        try simp only [Act.put, List.getElem_toArray, List.getElem_cons_succ, List.getElem_cons_zero, List.setIfInBounds_toArray, List.set_cons_zero, List.set_cons_succ]
        replace k7 := Blk.set3 (x := (.slice A5 s.ts.length cT5)) (y := (.int .i64 0)) (z := (.slice C5 s.cs.length cC5)) k7
        replace k8 := Blk.far3 (x := (.slice A5 s.ts.length cT5)) (y := (.int .i64 0)) (z := (.slice C5 s.cs.length cC5)) k8 n78
        replace o5 := Offs.set3 (x := (.slice A5 s.ts.length cT5)) (y := (.int .i64 0)) (z := (.slice C5 s.cs.length cC5)) o5 p75
        replace o6 := Offs.set3 (x := (.slice A5 s.ts.length cT5)) (y := (.int .i64 0)) (z := (.slice C5 s.cs.length cC5)) o6 p76
        clear hHeld
        have hHeld := hHeld2
        clear hHeld2
        refine wpAnyH_ready (rs := [7]) (by kernel_rfl) (by simp) ?_
        refine AllReadyH.cons rfl (fun K hK => ?_) AllReadyH.nil
        have q1 := k8.cell
        have q2 := k8.frz
        have q3 := k8.lt
        go_simp
        refine hK.out _ _ (keepS2_set hHeld l8) (fun hHeld2 => ?_)
        clear hK K q1 q2 q3
        try simp only [Act.put, List.getElem_toArray, List.getElem_cons_succ, List.getElem_cons_zero, List.setIfInBounds_toArray, List.set_cons_zero, List.set_cons_succ]
        replace k8 := Blk.set3 (x := (.slice A6 s2.ts.length cT6)) (y := (.int .i64 0)) (z := (.slice C6 s2.cs.length cC6)) k8
        replace k7 := Blk.far3 (x := (.slice A6 s2.ts.length cT6)) (y := (.int .i64 0)) (z := (.slice C6 s2.cs.length cC6)) k7 n78.symm
        replace o5 := Offs.set3 (x := (.slice A6 s2.ts.length cT6)) (y := (.int .i64 0)) (z := (.slice C6 s2.cs.length cC6)) o5 p85
        replace o6 := Offs.set3 (x := (.slice A6 s2.ts.length cT6)) (y := (.int .i64 0)) (z := (.slice C6 s2.cs.length cC6)) o6 p86
        clear hHeld
        have hHeld := hHeld2
        clear hHeld2
        refine wpAnyH_done (by kernel_rfl) ?_ _
        refine NoPanic.normal ?_
        have F7 := Lib.hid k7.bx
        have F8 := Lib.hid k8.bx
        have T5 := Lib.hid (HT5.offs ha5 hc5 o5)
        have T6 := Lib.hid (HT6.offs ha6 hc6 o6)
        have HBF := Lib.hid hHeld.2.2.2.2
        clear hHeld k7 k8 o5 o6 HT5 HT6 ha5 hc5 ha6 hc6 HF1 HF2
        go_wp2_with fail
        go_meet
        exact ⟨_, _, _, _, _, _, _, _, _, _, rfl, rfl, F7.out, F8.out, T5.out, T6.out, HBF.out⟩
      refine AllReadyH.cons rfl (fun K hK => ?_) AllReadyH.nil
      go_simp
      refine hK.out _ _ (keepS2_al _ hHeld) (fun hHeld2 => ?_)
      clear hK K
      try simp only [Act.put, List.getElem_toArray, List.getElem_cons_succ, List.getElem_cons_zero, List.setIfInBounds_toArray, List.set_cons_zero, List.set_cons_succ]
      have k8 := Blk.new w5 #[.slice none 0 0, .int .i64 0, .slice none 0 0] 25
      have l8 := hHeld.2.2.2.1
      have zp85 := o5.1
      replace o5 := o5.alloc (.cells #[.slice none 0 0, .int .i64 0, .slice none 0 0] 25)
      obtain ⟨v2, hv2⟩ : ∃ x, w5.alloc (.cells #[.slice none 0 0, .int .i64 0, .slice none 0 0] 25) = x := ⟨_, rfl⟩
      rw [hv2] at k8 hHeld2 o5 ⊢
      obtain ⟨b8, hb8⟩ : ∃ x, w5.heap.size = x := ⟨_, rfl⟩
      rw [hb8] at k8 l8 ⊢
      have p85 : b8 < B5 ∨ w5.heap.size ≤ b8 := Or.inr (by rw [← hb8]; exact zp85)
      clear zp85
      clear hv2 hb8 hHeld
      have hHeld := hHeld2
      clear hHeld2
      refine wpAnyH_ready (rs := [3, 4]) (by kernel_rfl) (by simp) ?_
      refine AllReadyH.cons rfl (fun K hK => ?_) ?_
      · skip
        go_simp
        go_at_call 45
        refine (HF2.out v2 hHeld _ rfl).mono ?_
        rintro e w6 ⟨A6, C6, cT6, cC6, rfl, HT6, ha6, hc6, hb6⟩
        have hHeld2 := keepS2 hHeld hb6
        try go_wp2_with fail
        refine hK.out _ _ hHeld2 (fun _ => ?_)
        clear hK K
        try simp only [Act.put, List.getElem_toArray, List.getElem_cons_succ, List.getElem_cons_zero, List.setIfInBounds_toArray, List.set_cons_zero, List.set_cons_succ]
        have o6 := Offs.refl w6 v2.heap.size
        have p86 : b8 < v2.heap.size ∨ w6.heap.size ≤ b8 := Or.inl k8.lt
        replace k8 := k8.step hb6
        replace o5 := o5.step hb6
        obtain ⟨B6, hB6⟩ : ∃ x, v2.heap.size = x := ⟨_, rfl⟩
        rw [hB6] at o6 ha6 hc6 p86
        clear hB6 hb6 hHeld
        have hHeld := hHeld2
        clear hHeld2
        refine wpAnyH_ready (rs := [4]) (by kernel_rfl) (by simp) ?_
        refine AllReadyH.cons rfl (fun K hK => ?_) AllReadyH.nil
        go_simp
        refine hK.out _ _ (keepS2_al _ hHeld) (fun hHeld2 => ?_)
        clear hK K
        try simp only [Act.put, List.getElem_toArray, List.getElem_cons_succ, List.getElem_cons_zero, List.setIfInBounds_toArray, List.set_cons_zero, List.set_cons_succ]
        have k7 := Blk.new w6 #[.slice none 0 0, .int .i64 0, .slice none 0 0] 25
        have l7 := hHeld.2.2.2.1
        have n78 : w6.heap.size ≠ b8 := by have := k8.lt; omega
        replace k8 := k8.alloc (.cells #[.slice none 0 0, .int .i64 0, .slice none 0 0] 25)
        have zp75 := o5.1
        replace o5 := o5.alloc (.cells #[.slice none 0 0, .int .i64 0, .slice none 0 0] 25)
        have zp76 := o6.1
        replace o6 := o6.alloc (.cells #[.slice none 0 0, .int .i64 0, .slice none 0 0] 25)
        obtain ⟨v4, hv4⟩ : ∃ x, w6.alloc (.cells #[.slice none 0 0, .int .i64 0, .slice none 0 0] 25) = x := ⟨_, rfl⟩
        rw [hv4] at k7 hHeld2 k8 o5 o6 ⊢
        obtain ⟨b7, hb7⟩ : ∃ x, w6.heap.size = x := ⟨_, rfl⟩
        rw [hb7] at k7 l7 n78 ⊢
        have p75 : b7 < B5 ∨ w5.heap.size ≤ b7 := Or.inr (by rw [← hb7]; exact zp75)
        clear zp75
        have p76 : b7 < B6 ∨ w6.heap.size ≤ b7 := Or.inr (by rw [← hb7]; exact zp76)
        clear zp76
        clear hv4 hb7 hHeld
        have hHeld := hHeld2
        clear hHeld2
        refine wpAnyH_ready (rs := [6]) (by kernel_rfl) (by simp) ?_
        refine AllReadyH.cons rfl (fun K hK => ?_) AllReadyH.nil
        have q1 := k7.cell
        have q2 := k7.frz
        have q3 := k7.lt
        go_simp
        refine hK.out _ _ (keepS2_set hHeld l7) (fun hHeld2 => ?_)
        clear hK K q1 q2 q3
        try simp only [Act.put, List.getElem_toArray, List.getElem_cons_succ, List.getElem_cons_zero, List.setIfInBounds_toArray, List.set_cons_zero, List.set_cons_succ]
        replace k7 := Blk.set3 (x := (.slice A5 s.ts.length cT5)) (y := (.int .i64 0)) (z := (.slice C5 s.cs.length cC5)) k7
        replace k8 := Blk.far3 (x := (.slice A5 s.ts.length cT5)) (y := (.int .i64 0)) (z := (.slice C5 s.cs.length cC5)) k8 n78.symm
        replace o5 := Offs.set3 (x := (.slice A5 s.ts.length cT5)) (y := (.int .i64 0)) (z := (.slice C5 s.cs.length cC5)) o5 p75
        replace o6 := Offs.set3 (x := (.slice A5 s.ts.length cT5)) (y := (.int .i64 0)) (z := (.slice C5 s.cs.length cC5)) o6 p76
        clear hHeld
        have hHeld := hHeld2
        clear hHeld2
        refine wpAnyH_ready (rs := [7]) (by kernel_rfl) (by simp) ?_
        refine AllReadyH.cons rfl (fun K hK => ?_) AllReadyH.nil
        have q1 := k8.cell
        have q2 := k8.frz
        have q3 := k8.lt
        go_simp
        refine hK.out _ _ (keepS2_set hHeld l8) (fun hHeld2 => ?_)
        clear hK K q1 q2 q3
        try simp only [Act.put, List.getElem_toArray, List.getElem_cons_succ, List.getElem_cons_zero, List.setIfInBounds_toArray, List.set_cons_zero, List.set_cons_succ]
        replace k8 := Blk.set3 (x := (.slice A6 s2.ts.length cT6)) (y := (.int .i64 0)) (z := (.slice C6 s2.cs.length cC6)) k8
        replace k7 := Blk.far3 (x := (.slice A6 s2.ts.length cT6)) (y := (.int .i64 0)) (z := (.slice C6 s2.cs.length cC6)) k7 n78
        replace o5 := Offs.set3 (x := (.slice A6 s2.ts.length cT6)) (y := (.int .i64 0)) (z := (.slice C6 s2.cs.length cC6)) o5 p85
        replace o6 := Offs.set3 (x := (.slice A6 s2.ts.length cT6)) (y := (.int .i64 0)) (z := (.slice C6 s2.cs.length cC6)) o6 p86
        clear hHeld
        have hHeld := hHeld2
        clear hHeld2
        refine wpAnyH_done (by kernel_rfl) ?_ _
        refine NoPanic.normal ?_
        have F7 := Lib.hid k7.bx
        have F8 := Lib.hid k8.bx
        have T5 := Lib.hid (HT5.offs ha5 hc5 o5)
        have T6 := Lib.hid (HT6.offs ha6 hc6 o6)
        have HBF := Lib.hid hHeld.2.2.2.2
        clear hHeld k7 k8 o5 o6 HT5 HT6 ha5 hc5 ha6 hc6 HF1 HF2
        go_wp2_with fail
        go_meet
        exact ⟨_, _, _, _, _, _, _, _, _, _, rfl, rfl, F7.out, F8.out, T5.out, T6.out, HBF.out⟩
      refine AllReadyH.cons rfl (fun K hK => ?_) AllReadyH.nil
      go_simp
      refine hK.out _ _ (keepS2_al _ hHeld) (fun hHeld2 => ?_)
      clear hK K
      try simp only [Act.put, List.getElem_toArray, List.getElem_cons_succ, List.getElem_cons_zero, List.setIfInBounds_toArray, List.set_cons_zero, List.set_cons_succ]
      have k7 := Blk.new v2 #[.slice none 0 0, .int .i64 0, .slice none 0 0] 25
      have l7 := hHeld.2.2.2.1
      have n78 : v2.heap.size ≠ b8 := by have := k8.lt; omega
      replace k8 := k8.alloc (.cells #[.slice none 0 0, .int .i64 0, .slice none 0 0] 25)
      have zp75 := o5.1
      replace o5 := o5.alloc (.cells #[.slice none 0 0, .int .i64 0, .slice none 0 0] 25)
      obtain ⟨v3, hv3⟩ : ∃ x, v2.alloc (.cells #[.slice none 0 0, .int .i64 0, .slice none 0 0] 25) = x := ⟨_, rfl⟩
      rw [hv3] at k7 hHeld2 k8 o5 ⊢
      obtain ⟨b7, hb7⟩ : ∃ x, v2.heap.size = x := ⟨_, rfl⟩
      rw [hb7] at k7 l7 n78 ⊢
      have p75 : b7 < B5 ∨ w5.heap.size ≤ b7 := Or.inr (by rw [← hb7]; exact zp75)
      clear zp75
      clear hv3 hb7 hHeld
      have hHeld := hHeld2
      clear hHeld2
      refine wpAnyH_ready (rs := [3]) (by kernel_rfl) (by simp) ?_
      refine AllReadyH.cons rfl (fun K hK => ?_) AllReadyH.nil
      go_simp
      go_at_call 45
      refine (HF2.out v3 hHeld _ rfl).mono ?_
      rintro e w6 ⟨A6, C6, cT6, cC6, rfl, HT6, ha6, hc6, hb6⟩
      have hHeld2 := keepS2 hHeld hb6
      try go_wp2_with fail
      refine hK.out _ _ hHeld2 (fun _ => ?_)
      clear hK K
      try simp only [Act.put, List.getElem_toArray, List.getElem_cons_succ, List.getElem_cons_zero, List.setIfInBounds_toArray, List.set_cons_zero, List.set_cons_succ]
      have o6 := Offs.refl w6 v3.heap.size
      have p76 : b7 < v3.heap.size ∨ w6.heap.size ≤ b7 := Or.inl k7.lt
      replace k7 := k7.step hb6
      have p86 : b8 < v3.heap.size ∨ w6.heap.size ≤ b8 := Or.inl k8.lt
      replace k8 := k8.step hb6
      replace o5 := o5.step hb6
      obtain ⟨B6, hB6⟩ : ∃ x, v3.heap.size = x := ⟨_, rfl⟩
      rw [hB6] at o6 ha6 hc6 p76 p86
      clear hB6 hb6 hHeld
      have hHeld := hHeld2
      clear hHeld2
      refine wpAnyH_ready (rs := [6]) (by kernel_rfl) (by simp) ?_
      refine AllReadyH.cons rfl (fun K hK => ?_) AllReadyH.nil
      have q1 := k7.cell
      have q2 := k7.frz
      have q3 := k7.lt
      go_simp
      refine hK.out _ _ (keepS2_set hHeld l7) (fun hHeld2 => ?_)
      clear hK K q1 q2 q3
      try simp only [Act.put, List.getElem_toArray, List.getElem_cons_succ, List.getElem_cons_zero, List.setIfInBounds_toArray, List.set_cons_zero, List.set_cons_succ]
      replace k7 := Blk.set3 (x := (.slice A5 s.ts.length cT5)) (y := (.int .i64 0)) (z := (.slice C5 s.cs.length cC5)) k7
      replace k8 := Blk.far3 (x := (.slice A5 s.ts.length cT5)) (y := (.int .i64 0)) (z := (.slice C5 s.cs.length cC5)) k8 n78.symm
      replace o5 := Offs.set3 (x := (.slice A5 s.ts.length cT5)) (y := (.int .i64 0)) (z := (.slice C5 s.cs.length cC5)) o5 p75
      replace o6 := Offs.set3 (x := (.slice A5 s.ts.length cT5)) (y := (.int .i64 0)) (z := (.slice C5 s.cs.length cC5)) o6 p76
      clear hHeld
      have hHeld := hHeld2
      clear hHeld2
      refine wpAnyH_ready (rs := [7]) (by kernel_rfl) (by simp) ?_
      refine AllReadyH.cons rfl (fun K hK => ?_) AllReadyH.nil
      have q1 := k8.cell
      have q2 := k8.frz
      have q3 := k8.lt
      go_simp
      refine hK.out _ _ (keepS2_set hHeld l8) (fun hHeld2 => ?_)
      clear hK K q1 q2 q3
      try simp only [Act.put, List.getElem_toArray, List.getElem_cons_succ, List.getElem_cons_zero, List.setIfInBounds_toArray, List.set_cons_zero, List.set_cons_succ]
      replace k8 := Blk.set3 (x := (.slice A6 s2.ts.length cT6)) (y := (.int .i64 0)) (z := (.slice C6 s2.cs.length cC6)) k8
      replace k7 := Blk.far3 (x := (.slice A6 s2.ts.length cT6)) (y := (.int .i64 0)) (z := (.slice C6 s2.cs.length cC6)) k7 n78
      replace o5 := Offs.set3 (x := (.slice A6 s2.ts.length cT6)) (y := (.int .i64 0)) (z := (.slice C6 s2.cs.length cC6)) o5 p85
      replace o6 := Offs.set3 (x := (.slice A6 s2.ts.length cT6)) (y := (.int .i64 0)) (z := (.slice C6 s2.cs.length cC6)) o6 p86
      clear hHeld
      have hHeld := hHeld2
      clear hHeld2
      refine wpAnyH_done (by kernel_rfl) ?_ _
      refine NoPanic.normal ?_
      have F7 := Lib.hid k7.bx
      have F8 := Lib.hid k8.bx
      have T5 := Lib.hid (HT5.offs ha5 hc5 o5)
      have T6 := Lib.hid (HT6.offs ha6 hc6 o6)
      have HBF := Lib.hid hHeld.2.2.2.2
      clear hHeld k7 k8 o5 o6 HT5 HT6 ha5 hc5 ha6 hc6 HF1 HF2
      go_wp2_with fail
      go_meet
      exact ⟨_, _, _, _, _, _, _, _, _, _, rfl, rfl, F7.out, F8.out, T5.out, T6.out, HBF.out⟩
    refine AllReadyH.cons rfl (fun K hK => ?_) ?_
    · skip
      go_simp
      refine hK.out _ _ (keepS2_al _ hHeld) (fun hHeld2 => ?_)
      clear hK K
      try simp only [Act.put, List.getElem_toArray, List.getElem_cons_succ, List.getElem_cons_zero, List.setIfInBounds_toArray, List.set_cons_zero, List.set_cons_succ]
      have k7 := Blk.new v0 #[.slice none 0 0, .int .i64 0, .slice none 0 0] 25
      have l7 := hHeld.2.2.2.1
      obtain ⟨v1, hv1⟩ : ∃ x, v0.alloc (.cells #[.slice none 0 0, .int .i64 0, .slice none 0 0] 25) = x := ⟨_, rfl⟩
      rw [hv1] at k7 hHeld2 ⊢
      obtain ⟨b7, hb7⟩ : ∃ x, v0.heap.size = x := ⟨_, rfl⟩
      rw [hb7] at k7 l7 ⊢
      clear hv1 hb7 hHeld
      have hHeld := hHeld2
      clear hHeld2
      refine wpAnyH_ready (rs := [1, 5]) (by kernel_rfl) (by simp) ?_
      refine AllReadyH.cons rfl (fun K hK => ?_) ?_
      · skip
        go_simp
        go_at_call 45
        refine (HF1.out v1 hHeld _ rfl).mono ?_
        rintro e w5 ⟨A5, C5, cT5, cC5, rfl, HT5, ha5, hc5, hb5⟩
        have hHeld2 := keepS2 hHeld hb5
        try go_wp2_with fail
        refine hK.out _ _ hHeld2 (fun _ => ?_)
        clear hK K
        try simp only [Act.put, List.getElem_toArray, List.getElem_cons_succ, List.getElem_cons_zero, List.setIfInBounds_toArray, List.set_cons_zero, List.set_cons_succ]
        have o5 := Offs.refl w5 v1.heap.size
        have p75 : b7 < v1.heap.size ∨ w5.heap.size ≤ b7 := Or.inl k7.lt
        replace k7 := k7.step hb5
        obtain ⟨B5, hB5⟩ : ∃ x, v1.heap.size = x := ⟨_, rfl⟩
        rw [hB5] at o5 ha5 hc5 p75
        clear hB5 hb5 hHeld
        have hHeld := hHeld2
        clear hHeld2
        refine wpAnyH_ready (rs := [3, 5]) (by kernel_rfl) (by simp) ?_
        refine AllReadyH.cons rfl (fun K hK => ?_) ?_
        · skip
          go_simp
          go_at_call 45
          refine (HF2.out w5 hHeld _ rfl).mono ?_
          rintro e w6 ⟨A6, C6, cT6, cC6, rfl, HT6, ha6, hc6, hb6⟩
          have hHeld2 := keepS2 hHeld hb6
          try go_wp2_with fail
          refine hK.out _ _ hHeld2 (fun _ => ?_)
          clear hK K
          try simp only [Act.put, List.getElem_toArray, List.getElem_cons_succ, List.getElem_cons_zero, List.setIfInBounds_toArray, List.set_cons_zero, List.set_cons_succ]
          have o6 := Offs.refl w6 w5.heap.size
          have p76 : b7 < w5.heap.size ∨ w6.heap.size ≤ b7 := Or.inl k7.lt
          replace k7 := k7.step hb6
          replace o5 := o5.step hb6
          obtain ⟨B6, hB6⟩ : ∃ x, w5.heap.size = x := ⟨_, rfl⟩
          rw [hB6] at o6 ha6 hc6 p76
          clear hB6 hb6 hHeld
          have hHeld := hHeld2
          clear hHeld2
          refine wpAnyH_ready (rs := [5]) (by kernel_rfl) (by simp) ?_
          refine AllReadyH.cons rfl (fun K hK => ?_) AllReadyH.nil
          go_simp
          refine hK.out _ _ (keepS2_al _ hHeld) (fun hHeld2 => ?_)
          clear hK K
          try simp only [Act.put, List.getElem_toArray, List.getElem_cons_succ, List.getElem_cons_zero, List.setIfInBounds_toArray, List.set_cons_zero, List.set_cons_succ]
          have k8 := Blk.new w6 #[.slice none 0 0, .int .i64 0, .slice none 0 0] 25
          have l8 := hHeld.2.2.2.1
          have n78 : w6.heap.size ≠ b7 := by have := k7.lt; omega
          replace k7 := k7.alloc (.cells #[.slice none 0 0, .int .i64 0, .slice none 0 0] 25)
          have zp85 := o5.1
          replace o5 := o5.alloc (.cells #[.slice none 0 0, .int .i64 0, .slice none 0 0] 25)
          have zp86 := o6.1
          replace o6 := o6.alloc (.cells #[.slice none 0 0, .int .i64 0, .slice none 0 0] 25)
          obtain ⟨v4, hv4⟩ : ∃ x, w6.alloc (.cells #[.slice none 0 0, .int .i64 0, .slice none 0 0] 25) = x := ⟨_, rfl⟩
          rw [hv4] at k8 hHeld2 k7 o5 o6 ⊢
          obtain ⟨b8, hb8⟩ : ∃ x, w6.heap.size = x := ⟨_, rfl⟩
          rw [hb8] at k8 l8 n78 ⊢
          have p85 : b8 < B5 ∨ w5.heap.size ≤ b8 := Or.inr (by rw [← hb8]; exact zp85)
          clear zp85
          have p86 : b8 < B6 ∨ w6.heap.size ≤ b8 := Or.inr (by rw [← hb8]; exact zp86)
          clear zp86
          clear hv4 hb8 hHeld
          have hHeld := hHeld2
          clear hHeld2
          refine wpAnyH_ready (rs := [6]) (by kernel_rfl) (by simp) ?_
          refine AllReadyH.cons rfl (fun K hK => ?_) AllReadyH.nil
          have q1 := k7.cell
          have q2 := k7.frz
          have q3 := k7.lt
          go_simp
          refine hK.out _ _ (keepS2_set hHeld l7) (fun hHeld2 => ?_)
          clear hK K q1 q2 q3
          try simp only [Act.put, List.getElem_toArray, List.getElem_cons_succ, List.getElem_cons_zero, List.setIfInBounds_toArray, List.set_cons_zero, List.set_cons_succ]
          replace k7 := Blk.set3 (x := (.slice A5 s.ts.length cT5)) (y := (.int .i64 0)) (z := (.slice C5 s.cs.length cC5)) k7
          replace k8 := Blk.far3 (x := (.slice A5 s.ts.length cT5)) (y := (.int .i64 0)) (z := (.slice C5 s.cs.length cC5)) k8 n78
          replace o5 := Offs.set3 (x := (.slice A5 s.ts.length cT5)) (y := (.int .i64 0)) (z := (.slice C5 s.cs.length cC5)) o5 p75
          replace o6 := Offs.set3 (x := (.slice A5 s.ts.length cT5)) (y := (.int .i64 0)) (z := (.slice C5 s.cs.length cC5)) o6 p76
          clear hHeld
          have hHeld := hHeld2
          clear hHeld2
          refine wpAnyH_ready (rs := [7]) (by kernel_rfl) (by simp) ?_
          refine AllReadyH.cons rfl (fun K hK => ?_) AllReadyH.nil
          have q1 := k8.cell
          have q2 := k8.frz
          have q3 := k8.lt
          go_simp
          refine hK.out _ _ (keepS2_set hHeld l8) (fun hHeld2 => ?_)
          clear hK K q1 q2 q3
          try simp only [Act.put, List.getElem_toArray, List.getElem_cons_succ, List.getElem_cons_zero, List.setIfInBounds_toArray, List.set_cons_zero, List.set_cons_succ]
          replace k8 := Blk.set3 (x := (.slice A6 s2.ts.length cT6)) (y := (.int .i64 0)) (z := (.slice C6 s2.cs.length cC6)) k8
          replace k7 := Blk.far3 (x := (.slice A6 s2.ts.length cT6)) (y := (.int .i64 0)) (z := (.slice C6 s2.cs.length cC6)) k7 n78.symm
          replace o5 := Offs.set3 (x := (.slice A6 s2.ts.length cT6)) (y := (.int .i64 0)) (z := (.slice C6 s2.cs.length cC6)) o5 p85
          replace o6 := Offs.set3 (x := (.slice A6 s2.ts.length cT6)) (y := (.int .i64 0)) (z := (.slice C6 s2.cs.length cC6)) o6 p86
          clear hHeld
          have hHeld := hHeld2
          clear hHeld2
          refine wpAnyH_done (by kernel_rfl) ?_ _
          refine NoPanic.normal ?_
          have F7 := Lib.hid k7.bx
          have F8 := Lib.hid k8.bx
          have T5 := Lib.hid (HT5.offs ha5 hc5 o5)
          have T6 := Lib.hid (HT6.offs ha6 hc6 o6)
          have HBF := Lib.hid hHeld.2.2.2.2
          clear hHeld k7 k8 o5 o6 HT5 HT6 ha5 hc5 ha6 hc6 HF1 HF2
          go_wp2_with fail
          go_meet
          exact ⟨_, _, _, _, _, _, _, _, _, _, rfl, rfl, F7.out, F8.out, T5.out, T6.out, HBF.out⟩
        refine AllReadyH.cons rfl (fun K hK => ?_) AllReadyH.nil
        go_simp
        refine hK.out _ _ (keepS2_al _ hHeld) (fun hHeld2 => ?_)
        clear hK K
        try simp only [Act.put, List.getElem_toArray, List.getElem_cons_succ, List.getElem_cons_zero, List.setIfInBounds_toArray, List.set_cons_zero, List.set_cons_succ]
        have k8 := Blk.new w5 #[.slice none 0 0, .int .i64 0, .slice none 0 0] 25
        have l8 := hHeld.2.2.2.1
        have n78 : w5.heap.size ≠ b7 := by have := k7.lt; omega
        replace k7 := k7.alloc (.cells #[.slice none 0 0, .int .i64 0, .slice none 0 0] 25)
        have zp85 := o5.1
        replace o5 := o5.alloc (.cells #[.slice none 0 0, .int .i64 0, .slice none 0 0] 25)
        obtain ⟨v3, hv3⟩ : ∃ x, w5.alloc (.cells #[.slice none 0 0, .int .i64 0, .slice none 0 0] 25) = x := ⟨_, rfl⟩
        rw [hv3] at k8 hHeld2 k7 o5 ⊢
        obtain ⟨b8, hb8⟩ : ∃ x, w5.heap.size = x := ⟨_, rfl⟩
        rw [hb8] at k8 l8 n78 ⊢
        have p85 : b8 < B5 ∨ w5.heap.size ≤ b8 := Or.inr (by rw [← hb8]; exact zp85)
        clear zp85
        clear hv3 hb8 hHeld
        have hHeld := hHeld2
        clear hHeld2
        refine wpAnyH_ready (rs := [3]) (by kernel_rfl) (by simp) ?_
        refine AllReadyH.cons rfl (fun K hK => ?_) AllReadyH.nil
        go_simp
        go_at_call 45
        refine (HF2.out v3 hHeld _ rfl).mono ?_
        rintro e w6 ⟨A6, C6, cT6, cC6, rfl, HT6, ha6, hc6, hb6⟩
        have hHeld2 := keepS2 hHeld hb6
        try go_wp2_with fail
        refine hK.out _ _ hHeld2 (fun _ => ?_)
        clear hK K
        try simp only [Act.put, List.getElem_toArray, List.getElem_cons_succ, List.getElem_cons_zero, List.setIfInBounds_toArray, List.set_cons_zero, List.set_cons_succ]
        have o6 := Offs.refl w6 v3.heap.size
        have p76 : b7 < v3.heap.size ∨ w6.heap.size ≤ b7 := Or.inl k7.lt
        replace k7 := k7.step hb6
        have p86 : b8 < v3.heap.size ∨ w6.heap.size ≤ b8 := Or.inl k8.lt
        replace k8 := k8.step hb6
        replace o5 := o5.step hb6
        obtain ⟨B6, hB6⟩ : ∃ x, v3.heap.size = x := ⟨_, rfl⟩
        rw [hB6] at o6 ha6 hc6 p76 p86
        clear hB6 hb6 hHeld
        have hHeld := hHeld2
        clear hHeld2
        refine wpAnyH_ready (rs := [6]) (by kernel_rfl) (by simp) ?_
        refine AllReadyH.cons rfl (fun K hK => ?_) AllReadyH.nil
        have q1 := k7.cell
        have q2 := k7.frz
        have q3 := k7.lt
        go_simp
        refine hK.out _ _ (keepS2_set hHeld l7) (fun hHeld2 => ?_)
        clear hK K q1 q2 q3
        try simp only [Act.put, List.getElem_toArray, List.getElem_cons_succ, List.getElem_cons_zero, List.setIfInBounds_toArray, List.set_cons_zero, List.set_cons_succ]
        replace k7 := Blk.set3 (x := (.slice A5 s.ts.length cT5)) (y := (.int .i64 0)) (z := (.slice C5 s.cs.length cC5)) k7
        replace k8 := Blk.far3 (x := (.slice A5 s.ts.length cT5)) (y := (.int .i64 0)) (z := (.slice C5 s.cs.length cC5)) k8 n78
        replace o5 := Offs.set3 (x := (.slice A5 s.ts.length cT5)) (y := (.int .i64 0)) (z := (.slice C5 s.cs.length cC5)) o5 p75
        replace o6 := Offs.set3 (x := (.slice A5 s.ts.length cT5)) (y := (.int .i64 0)) (z := (.slice C5 s.cs.length cC5)) o6 p76
        clear hHeld
        have hHeld := hHeld2
        clear hHeld2
        refine wpAnyH_ready (rs := [7]) (by kernel_rfl) (by simp) ?_
        refine AllReadyH.cons rfl (fun K hK => ?_) AllReadyH.nil
        have q1 := k8.cell
        have q2 := k8.frz
        have q3 := k8.lt
        go_simp
        refine hK.out _ _ (keepS2_set hHeld l8) (fun hHeld2 => ?_)
        clear hK K q1 q2 q3
        try simp only [Act.put, List.getElem_toArray, List.getElem_cons_succ, List.getElem_cons_zero, List.setIfInBounds_toArray, List.set_cons_zero, List.set_cons_succ]
        replace k8 := Blk.set3 (x := (.slice A6 s2.ts.length cT6)) (y := (.int .i64 0)) (z := (.slice C6 s2.cs.length cC6)) k8
        replace k7 := Blk.far3 (x := (.slice A6 s2.ts.length cT6)) (y := (.int .i64 0)) (z := (.slice C6 s2.cs.length cC6)) k7 n78.symm
        replace o5 := Offs.set3 (x := (.slice A6 s2.ts.length cT6)) (y := (.int .i64 0)) (z := (.slice C6 s2.cs.length cC6)) o5 p85
        replace o6 := Offs.set3 (x := (.slice A6 s2.ts.length cT6)) (y := (.int .i64 0)) (z := (.slice C6 s2.cs.length cC6)) o6 p86
        clear hHeld
        have hHeld := hHeld2
        clear hHeld2
        refine wpAnyH_done (by kernel_rfl) ?_ _
        refine NoPanic.normal ?_
        have F7 := Lib.hid k7.bx
        have F8 := Lib.hid k8.bx
        have T5 := Lib.hid (HT5.offs ha5 hc5 o5)
        have T6 := Lib.hid (HT6.offs ha6 hc6 o6)
        have HBF := Lib.hid hHeld.2.2.2.2
        clear hHeld k7 k8 o5 o6 HT5 HT6 ha5 hc5 ha6 hc6 HF1 HF2
        go_wp2_with fail
        go_meet
        exact ⟨_, _, _, _, _, _, _, _, _, _, rfl, rfl, F7.out, F8.out, T5.out, T6.out, HBF.out⟩
      refine AllReadyH.cons rfl (fun K hK => ?_) AllReadyH.nil
      go_simp
      refine hK.out _ _ (keepS2_al _ hHeld) (fun hHeld2 => ?_)
      clear hK K
      try simp only [Act.put, List.getElem_toArray, List.getElem_cons_succ, List.getElem_cons_zero, List.setIfInBounds_toArray, List.set_cons_zero, List.set_cons_succ]
      have k8 := Blk.new v1 #[.slice none 0 0, .int .i64 0, .slice none 0 0] 25
      have l8 := hHeld.2.2.2.1
      have n78 : v1.heap.size ≠ b7 := by have := k7.lt; omega
      replace k7 := k7.alloc (.cells #[.slice none 0 0, .int .i64 0, .slice none 0 0] 25)
      obtain ⟨v2, hv2⟩ : ∃ x, v1.alloc (.cells #[.slice none 0 0, .int .i64 0, .slice none 0 0] 25) = x := ⟨_, rfl⟩
      rw [hv2] at k8 hHeld2 k7 ⊢
      obtain ⟨b8, hb8⟩ : ∃ x, v1.heap.size = x := ⟨_, rfl⟩
      rw [hb8] at k8 l8 n78 ⊢
      clear hv2 hb8 hHeld
      have hHeld := hHeld2
      clear hHeld2
      refine wpAnyH_ready (rs := [1]) (by kernel_rfl) (by simp) ?_
      refine AllReadyH.cons rfl (fun K hK => ?_) AllReadyH.nil
      go_simp
      go_at_call 45
      refine (HF1.out v2 hHeld _ rfl).mono ?_
      rintro e w5 ⟨A5, C5, cT5, cC5, rfl, HT5, ha5, hc5, hb5⟩
      have hHeld2 := keepS2 hHeld hb5
      try go_wp2_with fail
      refine hK.out _ _ hHeld2 (fun _ => ?_)
      clear hK K
      try simp only [Act.put, List.getElem_toArray, List.getElem_cons_succ, List.getElem_cons_zero, List.setIfInBounds_toArray, List.set_cons_zero, List.set_cons_succ]
      have o5 := Offs.refl w5 v2.heap.size
      have p75 : b7 < v2.heap.size ∨ w5.heap.size ≤ b7 := Or.inl k7.lt
      replace k7 := k7.step hb5
      have p85 : b8 < v2.heap.size ∨ w5.heap.size ≤ b8 := Or.inl k8.lt
      replace k8 := k8.step hb5
      obtain ⟨B5, hB5⟩ : ∃ x, v2.heap.size = x := ⟨_, rfl⟩
      rw [hB5] at o5 ha5 hc5 p75 p85
      clear hB5 hb5 hHeld
      have hHeld := hHeld2
      clear hHeld2
      refine wpAnyH_ready (rs := [3]) (by kernel_rfl) (by simp) ?_
      refine AllReadyH.cons rfl (fun K hK => ?_) AllReadyH.nil
      go_simp
      go_at_call 45
      refine (HF2.out w5 hHeld _ rfl).mono ?_
      rintro e w6 ⟨A6, C6, cT6, cC6, rfl, HT6, ha6, hc6, hb6⟩
      have hHeld2 := keepS2 hHeld hb6
      try go_wp2_with fail
      refine hK.out _ _ hHeld2 (fun _ => ?_)
      clear hK K
      try simp only [Act.put, List.getElem_toArray, List.getElem_cons_succ, List.getElem_cons_zero, List.setIfInBounds_toArray, List.set_cons_zero, List.set_cons_succ]
      have o6 := Offs.refl w6 w5.heap.size
      have p76 : b7 < w5.heap.size ∨ w6.heap.size ≤ b7 := Or.inl k7.lt
      replace k7 := k7.step hb6
      have p86 : b8 < w5.heap.size ∨ w6.heap.size ≤ b8 := Or.inl k8.lt
      replace k8 := k8.step hb6
      replace o5 := o5.step hb6
      obtain ⟨B6, hB6⟩ : ∃ x, w5.heap.size = x := ⟨_, rfl⟩
      rw [hB6] at o6 ha6 hc6 p76 p86
      clear hB6 hb6 hHeld
      have hHeld := hHeld2
      clear hHeld2
      refine wpAnyH_ready (rs := [6]) (by kernel_rfl) (by simp) ?_
      refine AllReadyH.cons rfl (fun K hK => ?_) AllReadyH.nil
      have q1 := k7.cell
      have q2 := k7.frz
      have q3 := k7.lt
      go_simp
      refine hK.out _ _ (keepS2_set hHeld l7) (fun hHeld2 => ?_)
      clear hK K q1 q2 q3
      try simp only [Act.put, List.getElem_toArray, List.getElem_cons_succ, List.getElem_cons_zero, List.setIfInBounds_toArray, List.set_cons_zero, List.set_cons_succ]
      replace k7 := Blk.set3 (x := (.slice A5 s.ts.length cT5)) (y := (.int .i64 0)) (z := (.slice C5 s.cs.length cC5)) k7
      replace k8 := Blk.far3 (x := (.slice A5 s.ts.length cT5)) (y := (.int .i64 0)) (z := (.slice C5 s.cs.length cC5)) k8 n78
      replace o5 := Offs.set3 (x := (.slice A5 s.ts.length cT5)) (y := (.int .i64 0)) (z := (.slice C5 s.cs.length cC5)) o5 p75
      replace o6 := Offs.set3 (x := (.slice A5 s.ts.length cT5)) (y := (.int .i64 0)) (z := (.slice C5 s.cs.length cC5)) o6 p76
      clear hHeld
      have hHeld := hHeld2
      clear hHeld2
      refine wpAnyH_ready (rs := [7]) (by kernel_rfl) (by simp) ?_
      refine AllReadyH.cons rfl (fun K hK => ?_) AllReadyH.nil
      have q1 := k8.cell
      have q2 := k8.frz
      have q3 := k8.lt
      go_simp
      refine hK.out _ _ (keepS2_set hHeld l8) (fun hHeld2 => ?_)
      clear hK K q1 q2 q3
      try simp only [Act.put, List.getElem_toArray, List.getElem_cons_succ, List.getElem_cons_zero, List.setIfInBounds_toArray, List.set_cons_zero, List.set_cons_succ]
      replace k8 := Blk.set3 (x := (.slice A6 s2.ts.length cT6)) (y := (.int .i64 0)) (z := (.slice C6 s2.cs.length cC6)) k8
      replace k7 := Blk.far3 (x := (.slice A6 s2.ts.length cT6)) (y := (.int .i64 0)) (z := (.slice C6 s2.cs.length cC6)) k7 n78.symm
      replace o5 := Offs.set3 (x := (.slice A6 s2.ts.length cT6)) (y := (.int .i64 0)) (z := (.slice C6 s2.cs.length cC6)) o5 p85
      replace o6 := Offs.set3 (x := (.slice A6 s2.ts.length cT6)) (y := (.int .i64 0)) (z := (.slice C6 s2.cs.length cC6)) o6 p86
      clear hHeld
      have hHeld := hHeld2
      clear hHeld2
      refine wpAnyH_done (by kernel_rfl) ?_ _
      refine NoPanic.normal ?_
      have F7 := Lib.hid k7.bx
      have F8 := Lib.hid k8.bx
      have T5 := Lib.hid (HT5.offs ha5 hc5 o5)
      have T6 := Lib.hid (HT6.offs ha6 hc6 o6)
      have HBF := Lib.hid hHeld.2.2.2.2
      clear hHeld k7 k8 o5 o6 HT5 HT6 ha5 hc5 ha6 hc6 HF1 HF2
      go_wp2_with fail
      go_meet
      exact ⟨_, _, _, _, _, _, _, _, _, _, rfl, rfl, F7.out, F8.out, T5.out, T6.out, HBF.out⟩
    refine AllReadyH.cons rfl (fun K hK => ?_) AllReadyH.nil
    go_simp
    refine hK.out _ _ (keepS2_al _ hHeld) (fun hHeld2 => ?_)
    clear hK K
    try simp only [Act.put, List.getElem_toArray, List.getElem_cons_succ, List.getElem_cons_zero, List.setIfInBounds_toArray, List.set_cons_zero, List.set_cons_succ]
    have k8 := Blk.new v0 #[.slice none 0 0, .int .i64 0, .slice none 0 0] 25
    have l8 := hHeld.2.2.2.1
    obtain ⟨v1, hv1⟩ : ∃ x, v0.alloc (.cells #[.slice none 0 0, .int .i64 0, .slice none 0 0] 25) = x := ⟨_, rfl⟩
    rw [hv1] at k8 hHeld2 ⊢
    obtain ⟨b8, hb8⟩ : ∃ x, v0.heap.size = x := ⟨_, rfl⟩
    rw [hb8] at k8 l8 ⊢
    clear hv1 hb8 hHeld
    have hHeld := hHeld2
    clear hHeld2
    refine wpAnyH_ready (rs := [1, 4]) (by kernel_rfl) (by simp) ?_
    refine AllReadyH.cons rfl (fun K hK => ?_) ?_
    · skip
      go_simp
      go_at_call 45
      refine (HF1.out v1 hHeld _ rfl).mono ?_
      rintro e w5 ⟨A5, C5, cT5, cC5, rfl, HT5, ha5, hc5, hb5⟩
      have hHeld2 := keepS2 hHeld hb5
      try go_wp2_with fail
      refine hK.out _ _ hHeld2 (fun _ => ?_)
      clear hK K
      try simp only [Act.put, List.getElem_toArray, List.getElem_cons_succ, List.getElem_cons_zero, List.setIfInBounds_toArray, List.set_cons_zero, List.set_cons_succ]
      have o5 := Offs.refl w5 v1.heap.size
      have p85 : b8 < v1.heap.size ∨ w5.heap.size ≤ b8 := Or.inl k8.lt
      replace k8 := k8.step hb5
      obtain ⟨B5, hB5⟩ : ∃ x, v1.heap.size = x := ⟨_, rfl⟩
      rw [hB5] at o5 ha5 hc5 p85
      clear hB5 hb5 hHeld
      have hHeld := hHeld2
      clear hHeld2
      refine wpAnyH_ready (rs := [3, 4]) (by kernel_rfl) (by simp) ?_
      refine AllReadyH.cons rfl (fun K hK => ?_) ?_
      · skip
        go_simp
        go_at_call 45
        refine (HF2.out w5 hHeld _ rfl).mono ?_
        rintro e w6 ⟨A6, C6, cT6, cC6, rfl, HT6, ha6, hc6, hb6⟩
        have hHeld2 := keepS2 hHeld hb6
        try go_wp2_with fail
        refine hK.out _ _ hHeld2 (fun _ => ?_)
        clear hK K
        try simp only [Act.put, List.getElem_toArray, List.getElem_cons_succ, List.getElem_cons_zero, List.setIfInBounds_toArray, List.set_cons_zero, List.set_cons_succ]
        have o6 := Offs.refl w6 w5.heap.size
        have p86 : b8 < w5.heap.size ∨ w6.heap.size ≤ b8 := Or.inl k8.lt
        replace k8 := k8.step hb6
        replace o5 := o5.step hb6
        obtain ⟨B6, hB6⟩ : ∃ x, w5.heap.size = x := ⟨_, rfl⟩
        rw [hB6] at o6 ha6 hc6 p86
        clear hB6 hb6 hHeld
        have hHeld := hHeld2
        clear hHeld2
        refine wpAnyH_ready (rs := [4]) (by kernel_rfl) (by simp) ?_
        refine AllReadyH.cons rfl (fun K hK => ?_) AllReadyH.nil
        go_simp
        refine hK.out _ _ (keepS2_al _ hHeld) (fun hHeld2 => ?_)
        clear hK K
        try simp only [Act.put, List.getElem_toArray, List.getElem_cons_succ, List.getElem_cons_zero, List.setIfInBounds_toArray, List.set_cons_zero, List.set_cons_succ]
        have k7 := Blk.new w6 #[.slice none 0 0, .int .i64 0, .slice none 0 0] 25
        have l7 := hHeld.2.2.2.1
        have n78 : w6.heap.size ≠ b8 := by have := k8.lt; omega
        replace k8 := k8.alloc (.cells #[.slice none 0 0, .int .i64 0, .slice none 0 0] 25)
        have zp75 := o5.1
        replace o5 := o5.alloc (.cells #[.slice none 0 0, .int .i64 0, .slice none 0 0] 25)
        have zp76 := o6.1
        replace o6 := o6.alloc (.cells #[.slice none 0 0, .int .i64 0, .slice none 0 0] 25)
        obtain ⟨v4, hv4⟩ : ∃ x, w6.alloc (.cells #[.slice none 0 0, .int .i64 0, .slice none 0 0] 25) = x := ⟨_, rfl⟩
        rw [hv4] at k7 hHeld2 k8 o5 o6 ⊢
        obtain ⟨b7, hb7⟩ : ∃ x, w6.heap.size = x := ⟨_, rfl⟩
        rw [hb7] at k7 l7 n78 ⊢
        have p75 : b7 < B5 ∨ w5.heap.size ≤ b7 := Or.inr (by rw [← hb7]; exact zp75)
        clear zp75
        have p76 : b7 < B6 ∨ w6.heap.size ≤ b7 := Or.inr (by rw [← hb7]; exact zp76)
        clear zp76
        clear hv4 hb7 hHeld
        have hHeld := hHeld2
        clear hHeld2
        refine wpAnyH_ready (rs := [6]) (by kernel_rfl) (by simp) ?_
        refine AllReadyH.cons rfl (fun K hK => ?_) AllReadyH.nil
        have q1 := k7.cell
        have q2 := k7.frz
        have q3 := k7.lt
        go_simp
        refine hK.out _ _ (keepS2_set hHeld l7) (fun hHeld2 => ?_)
        clear hK K q1 q2 q3
        try simp only [Act.put, List.getElem_toArray, List.getElem_cons_succ, List.getElem_cons_zero, List.setIfInBounds_toArray, List.set_cons_zero, List.set_cons_succ]
        replace k7 := Blk.set3 (x := (.slice A5 s.ts.length cT5)) (y := (.int .i64 0)) (z := (.slice C5 s.cs.length cC5)) k7
        replace k8 := Blk.far3 (x := (.slice A5 s.ts.length cT5)) (y := (.int .i64 0)) (z := (.slice C5 s.cs.length cC5)) k8 n78.symm
        replace o5 := Offs.set3 (x := (.slice A5 s.ts.length cT5)) (y := (.int .i64 0)) (z := (.slice C5 s.cs.length cC5)) o5 p75
        replace o6 := Offs.set3 (x := (.slice A5 s.ts.length cT5)) (y := (.int .i64 0)) (z := (.slice C5 s.cs.length cC5)) o6 p76
        clear hHeld
        have hHeld := hHeld2
        clear hHeld2
        refine wpAnyH_ready (rs := [7]) (by kernel_rfl) (by simp) ?_
        refine AllReadyH.cons rfl (fun K hK => ?_) AllReadyH.nil
        have q1 := k8.cell
        have q2 := k8.frz
        have q3 := k8.lt
        go_simp
        refine hK.out _ _ (keepS2_set hHeld l8) (fun hHeld2 => ?_)
        clear hK K q1 q2 q3
        try simp only [Act.put, List.getElem_toArray, List.getElem_cons_succ, List.getElem_cons_zero, List.setIfInBounds_toArray, List.set_cons_zero, List.set_cons_succ]
        replace k8 := Blk.set3 (x := (.slice A6 s2.ts.length cT6)) (y := (.int .i64 0)) (z := (.slice C6 s2.cs.length cC6)) k8
        replace k7 := Blk.far3 (x := (.slice A6 s2.ts.length cT6)) (y := (.int .i64 0)) (z := (.slice C6 s2.cs.length cC6)) k7 n78
        replace o5 := Offs.set3 (x := (.slice A6 s2.ts.length cT6)) (y := (.int .i64 0)) (z := (.slice C6 s2.cs.length cC6)) o5 p85
        replace o6 := Offs.set3 (x := (.slice A6 s2.ts.length cT6)) (y := (.int .i64 0)) (z := (.slice C6 s2.cs.length cC6)) o6 p86
        clear hHeld
        have hHeld := hHeld2
        clear hHeld2
        refine wpAnyH_done (by kernel_rfl) ?_ _
        refine NoPanic.normal ?_
        have F7 := Lib.hid k7.bx
        have F8 := Lib.hid k8.bx
        have T5 := Lib.hid (HT5.offs ha5 hc5 o5)
        have T6 := Lib.hid (HT6.offs ha6 hc6 o6)
        have HBF := Lib.hid hHeld.2.2.2.2
        clear hHeld k7 k8 o5 o6 HT5 HT6 ha5 hc5 ha6 hc6 HF1 HF2
        go_wp2_with fail
        go_meet
        exact ⟨_, _, _, _, _, _, _, _, _, _, rfl, rfl, F7.out, F8.out, T5.out, T6.out, HBF.out⟩
      refine AllReadyH.cons rfl (fun K hK => ?_) AllReadyH.nil
      go_simp
      refine hK.out _ _ (keepS2_al _ hHeld) (fun hHeld2 => ?_)
      clear hK K
      try simp only [Act.put, List.getElem_toArray, List.getElem_cons_succ, List.getElem_cons_zero, List.setIfInBounds_toArray, List.set_cons_zero, List.set_cons_succ]
      have k7 := Blk.new w5 #[.slice none 0 0, .int .i64 0, .slice none 0 0] 25
      have l7 := hHeld.2.2.2.1
      have n78 : w5.heap.size ≠ b8 := by have := k8.lt; omega
      replace k8 := k8.alloc (.cells #[.slice none 0 0, .int .i64 0, .slice none 0 0] 25)
      have zp75 := o5.1
      replace o5 := o5.alloc (.cells #[.slice none 0 0, .int .i64 0, .slice none 0 0] 25)
      obtain ⟨v3, hv3⟩ : ∃ x, w5.alloc (.cells #[.slice none 0 0, .int .i64 0, .slice none 0 0] 25) = x := ⟨_, rfl⟩
      rw [hv3] at k7 hHeld2 k8 o5 ⊢
      obtain ⟨b7, hb7⟩ : ∃ x, w5.heap.size = x := ⟨_, rfl⟩
      rw [hb7] at k7 l7 n78 ⊢
      have p75 : b7 < B5 ∨ w5.heap.size ≤ b7 := Or.inr (by rw [← hb7]; exact zp75)
      clear zp75
      clear hv3 hb7 hHeld
      have hHeld := hHeld2
      clear hHeld2
      refine wpAnyH_ready (rs := [3]) (by kernel_rfl) (by simp) ?_
      refine AllReadyH.cons rfl (fun K hK => ?_) AllReadyH.nil
      go_simp
      go_at_call 45
      refine (HF2.out v3 hHeld _ rfl).mono ?_
      rintro e w6 ⟨A6, C6, cT6, cC6, rfl, HT6, ha6, hc6, hb6⟩
      have hHeld2 := keepS2 hHeld hb6
      try go_wp2_with fail
      refine hK.out _ _ hHeld2 (fun _ => ?_)
      clear hK K
      try simp only [Act.put, List.getElem_toArray, List.getElem_cons_succ, List.getElem_cons_zero, List.setIfInBounds_toArray, List.set_cons_zero, List.set_cons_succ]
      have o6 := Offs.refl w6 v3.heap.size
      have p76 : b7 < v3.heap.size ∨ w6.heap.size ≤ b7 := Or.inl k7.lt
      replace k7 := k7.step hb6
      have p86 : b8 < v3.heap.size ∨ w6.heap.size ≤ b8 := Or.inl k8.lt
      replace k8 := k8.step hb6
      replace o5 := o5.step hb6
      obtain ⟨B6, hB6⟩ : ∃ x, v3.heap.size = x := ⟨_, rfl⟩
      rw [hB6] at o6 ha6 hc6 p76 p86
      clear hB6 hb6 hHeld
      have hHeld := hHeld2
      clear hHeld2
      refine wpAnyH_ready (rs := [6]) (by kernel_rfl) (by simp) ?_
      refine AllReadyH.cons rfl (fun K hK => ?_) AllReadyH.nil
      have q1 := k7.cell
      have q2 := k7.frz
      have q3 := k7.lt
      go_simp
      refine hK.out _ _ (keepS2_set hHeld l7) (fun hHeld2 => ?_)
      clear hK K q1 q2 q3
      try simp only [Act.put, List.getElem_toArray, List.getElem_cons_succ, List.getElem_cons_zero, List.setIfInBounds_toArray, List.set_cons_zero, List.set_cons_succ]
      replace k7 := Blk.set3 (x := (.slice A5 s.ts.length cT5)) (y := (.int .i64 0)) (z := (.slice C5 s.cs.length cC5)) k7
      replace k8 := Blk.far3 (x := (.slice A5 s.ts.length cT5)) (y := (.int .i64 0)) (z := (.slice C5 s.cs.length cC5)) k8 n78.symm
      replace o5 := Offs.set3 (x := (.slice A5 s.ts.length cT5)) (y := (.int .i64 0)) (z := (.slice C5 s.cs.length cC5)) o5 p75
      replace o6 := Offs.set3 (x := (.slice A5 s.ts.length cT5)) (y := (.int .i64 0)) (z := (.slice C5 s.cs.length cC5)) o6 p76
      clear hHeld
      have hHeld := hHeld2
      clear hHeld2
      refine wpAnyH_ready (rs := [7]) (by kernel_rfl) (by simp) ?_
      refine AllReadyH.cons rfl (fun K hK => ?_) AllReadyH.nil
      have q1 := k8.cell
      have q2 := k8.frz
      have q3 := k8.lt
      go_simp
      refine hK.out _ _ (keepS2_set hHeld l8) (fun hHeld2 => ?_)
      clear hK K q1 q2 q3
      try simp only [Act.put, List.getElem_toArray, List.getElem_cons_succ, List.getElem_cons_zero, List.setIfInBounds_toArray, List.set_cons_zero, List.set_cons_succ]
      replace k8 := Blk.set3 (x := (.slice A6 s2.ts.length cT6)) (y := (.int .i64 0)) (z := (.slice C6 s2.cs.length cC6)) k8
      replace k7 := Blk.far3 (x := (.slice A6 s2.ts.length cT6)) (y := (.int .i64 0)) (z := (.slice C6 s2.cs.length cC6)) k7 n78
      replace o5 := Offs.set3 (x := (.slice A6 s2.ts.length cT6)) (y := (.int .i64 0)) (z := (.slice C6 s2.cs.length cC6)) o5 p85
      replace o6 := Offs.set3 (x := (.slice A6 s2.ts.length cT6)) (y := (.int .i64 0)) (z := (.slice C6 s2.cs.length cC6)) o6 p86
      clear hHeld
      have hHeld := hHeld2
      clear hHeld2
      refine wpAnyH_done (by kernel_rfl) ?_ _
      refine NoPanic.normal ?_
      have F7 := Lib.hid k7.bx
      have F8 := Lib.hid k8.bx
      have T5 := Lib.hid (HT5.offs ha5 hc5 o5)
      have T6 := Lib.hid (HT6.offs ha6 hc6 o6)
      have HBF := Lib.hid hHeld.2.2.2.2
      clear hHeld k7 k8 o5 o6 HT5 HT6 ha5 hc5 ha6 hc6 HF1 HF2
      go_wp2_with fail
      go_meet
      exact ⟨_, _, _, _, _, _, _, _, _, _, rfl, rfl, F7.out, F8.out, T5.out, T6.out, HBF.out⟩
    refine AllReadyH.cons rfl (fun K hK => ?_) AllReadyH.nil
    go_simp
    refine hK.out _ _ (keepS2_al _ hHeld) (fun hHeld2 => ?_)
    clear hK K
    try simp only [Act.put, List.getElem_toArray, List.getElem_cons_succ, List.getElem_cons_zero, List.setIfInBounds_toArray, List.set_cons_zero, List.set_cons_succ]
    have k7 := Blk.new v1 #[.slice none 0 0, .int .i64 0, .slice none 0 0] 25
    have l7 := hHeld.2.2.2.1
    have n78 : v1.heap.size ≠ b8 := by have := k8.lt; omega
    replace k8 := k8.alloc (.cells #[.slice none 0 0, .int .i64 0, .slice none 0 0] 25)
    obtain ⟨v2, hv2⟩ : ∃ x, v1.alloc (.cells #[.slice none 0 0, .int .i64 0, .slice none 0 0] 25) = x := ⟨_, rfl⟩
    rw [hv2] at k7 hHeld2 k8 ⊢
    obtain ⟨b7, hb7⟩ : ∃ x, v1.heap.size = x := ⟨_, rfl⟩
    rw [hb7] at k7 l7 n78 ⊢
    clear hv2 hb7 hHeld
    have hHeld := hHeld2
    clear hHeld2
    refine wpAnyH_ready (rs := [1]) (by kernel_rfl) (by simp) ?_
    refine AllReadyH.cons rfl (fun K hK => ?_) AllReadyH.nil
    go_simp
    go_at_call 45
    refine (HF1.out v2 hHeld _ rfl).mono ?_
    rintro e w5 ⟨A5, C5, cT5, cC5, rfl, HT5, ha5, hc5, hb5⟩
    have hHeld2 := keepS2 hHeld hb5
    try go_wp2_with fail
    refine hK.out _ _ hHeld2 (fun _ => ?_)
    clear hK K
    try simp only [Act.put, List.getElem_toArray, List.getElem_cons_succ, List.getElem_cons_zero, List.setIfInBounds_toArray, List.set_cons_zero, List.set_cons_succ]
    have o5 := Offs.refl w5 v2.heap.size
    have p75 : b7 < v2.heap.size ∨ w5.heap.size ≤ b7 := Or.inl k7.lt
    replace k7 := k7.step hb5
    have p85 : b8 < v2.heap.size ∨ w5.heap.size ≤ b8 := Or.inl k8.lt
    replace k8 := k8.step hb5
    obtain ⟨B5, hB5⟩ : ∃ x, v2.heap.size = x := ⟨_, rfl⟩
    rw [hB5] at o5 ha5 hc5 p75 p85
    clear hB5 hb5 hHeld
    have hHeld := hHeld2
    clear hHeld2
    refine wpAnyH_ready (rs := [3]) (by kernel_rfl) (by simp) ?_
    refine AllReadyH.cons rfl (fun K hK => ?_) AllReadyH.nil
    go_simp
    go_at_call 45
    refine (HF2.out w5 hHeld _ rfl).mono ?_
    rintro e w6 ⟨A6, C6, cT6, cC6, rfl, HT6, ha6, hc6, hb6⟩
    have hHeld2 := keepS2 hHeld hb6
    try go_wp2_with fail
    refine hK.out _ _ hHeld2 (fun _ => ?_)
    clear hK K
    try simp only [Act.put, List.getElem_toArray, List.getElem_cons_succ, List.getElem_cons_zero, List.setIfInBounds_toArray, List.set_cons_zero, List.set_cons_succ]
    have o6 := Offs.refl w6 w5.heap.size
    have p76 : b7 < w5.heap.size ∨ w6.heap.size ≤ b7 := Or.inl k7.lt
    replace k7 := k7.step hb6
    have p86 : b8 < w5.heap.size ∨ w6.heap.size ≤ b8 := Or.inl k8.lt
    replace k8 := k8.step hb6
    replace o5 := o5.step hb6
    obtain ⟨B6, hB6⟩ : ∃ x, w5.heap.size = x := ⟨_, rfl⟩
    rw [hB6] at o6 ha6 hc6 p76 p86
    clear hB6 hb6 hHeld
    have hHeld := hHeld2
    clear hHeld2
    refine wpAnyH_ready (rs := [6]) (by kernel_rfl) (by simp) ?_
    refine AllReadyH.cons rfl (fun K hK => ?_) AllReadyH.nil
    have q1 := k7.cell
    have q2 := k7.frz
    have q3 := k7.lt
    go_simp
    refine hK.out _ _ (keepS2_set hHeld l7) (fun hHeld2 => ?_)
    clear hK K q1 q2 q3
    try simp only [Act.put, List.getElem_toArray, List.getElem_cons_succ, List.getElem_cons_zero, List.setIfInBounds_toArray, List.set_cons_zero, List.set_cons_succ]
    replace k7 := Blk.set3 (x := (.slice A5 s.ts.length cT5)) (y := (.int .i64 0)) (z := (.slice C5 s.cs.length cC5)) k7
    replace k8 := Blk.far3 (x := (.slice A5 s.ts.length cT5)) (y := (.int .i64 0)) (z := (.slice C5 s.cs.length cC5)) k8 n78.symm
    replace o5 := Offs.set3 (x := (.slice A5 s.ts.length cT5)) (y := (.int .i64 0)) (z := (.slice C5 s.cs.length cC5)) o5 p75
    replace o6 := Offs.set3 (x := (.slice A5 s.ts.length cT5)) (y := (.int .i64 0)) (z := (.slice C5 s.cs.length cC5)) o6 p76
    clear hHeld
    have hHeld := hHeld2
    clear hHeld2
    refine wpAnyH_ready (rs := [7]) (by kernel_rfl) (by simp) ?_
    refine AllReadyH.cons rfl (fun K hK => ?_) AllReadyH.nil
    have q1 := k8.cell
    have q2 := k8.frz
    have q3 := k8.lt
    go_simp
    refine hK.out _ _ (keepS2_set hHeld l8) (fun hHeld2 => ?_)
    clear hK K q1 q2 q3
    try simp only [Act.put, List.getElem_toArray, List.getElem_cons_succ, List.getElem_cons_zero, List.setIfInBounds_toArray, List.set_cons_zero, List.set_cons_succ]
    replace k8 := Blk.set3 (x := (.slice A6 s2.ts.length cT6)) (y := (.int .i64 0)) (z := (.slice C6 s2.cs.length cC6)) k8
    replace k7 := Blk.far3 (x := (.slice A6 s2.ts.length cT6)) (y := (.int .i64 0)) (z := (.slice C6 s2.cs.length cC6)) k7 n78
    replace o5 := Offs.set3 (x := (.slice A6 s2.ts.length cT6)) (y := (.int .i64 0)) (z := (.slice C6 s2.cs.length cC6)) o5 p85
    replace o6 := Offs.set3 (x := (.slice A6 s2.ts.length cT6)) (y := (.int .i64 0)) (z := (.slice C6 s2.cs.length cC6)) o6 p86
    clear hHeld
    have hHeld := hHeld2
    clear hHeld2
    refine wpAnyH_done (by kernel_rfl) ?_ _
    refine NoPanic.normal ?_
    have F7 := Lib.hid k7.bx
    have F8 := Lib.hid k8.bx
    have T5 := Lib.hid (HT5.offs ha5 hc5 o5)
    have T6 := Lib.hid (HT6.offs ha6 hc6 o6)
    have HBF := Lib.hid hHeld.2.2.2.2
    clear hHeld k7 k8 o5 o6 HT5 HT6 ha5 hc5 ha6 hc6 HF1 HF2
    go_wp2_with fail
    go_meet
    exact ⟨_, _, _, _, _, _, _, _, _, _, rfl, rfl, F7.out, F8.out, T5.out, T6.out, HBF.out⟩
  case rest =>
    obtain ⟨b7, b8, A5, C5, cT5, cC5, A6, C6, cT6, cC6, rfl, rfl, f7, f8, T5, T6, hB⟩ := hcut
    clear x1 x2 hb1 H H2 K K2 HS1 HS2
    have F7 := Lib.hid f7
    have F8 := Lib.hid f8
    have hcs7 := f7.1
    have hcs8 := f8.1
    clear f7 f8
    go_wp2_with fail
    refine (s_EqualTy A5 A6 cT5 cT6 s.ts s2.ts _ T5.T T6.T T5.cT T5.mT T6.cT T6.mT).mono ?_
    rintro e w8 ⟨rfl, hb8⟩
    have hB8 := hB.trans (hb8.mono hB.size)
    have hcs7 := (F7.out.step hb8).1
    have hcs8 := (F8.out.step hb8).1
    have T5' := T5.below hb8
    have T6' := T6.below hb8
    cases hq : decide (s.ts = s2.ts) with
    | true =>
      have HQ := Lib.hid hq
      clear hq
      go_wp2_with fail
      refine (s_EqualCh C5 C6 cC5 cC6 s.cs s2.cs _ T5'.C T6'.C T5'.cC T5'.mC T6'.cC T6'.mC).mono ?_
      rintro e w9 ⟨rfl, hb9⟩
      go_wp2_with fail
      go_ret2
      exact ⟨ret_t (b := decide (s.cs = s2.cs)) (by rw [sameB, HQ.out, Bool.true_and]), hB8.trans (hb9.mono hB8.size)⟩
    | false =>
      have HQ := Lib.hid hq
      clear hq
      go_wp2_with fail
      go_ret2
      exact ⟨ret_t (b := false) (by rw [sameB, HQ.out, Bool.false_and]), hB8⟩
end Go.Proofs.Ytgnodiegippkeaa
