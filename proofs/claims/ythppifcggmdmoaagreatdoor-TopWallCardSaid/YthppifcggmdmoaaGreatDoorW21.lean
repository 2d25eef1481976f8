/- Part 21 of the proof of TopWall: no condition; what its declarations say stands at each. -/
import Derived.Test.YthppifcggmdmoaaGreatDoorW12
import Derived.Test.YthppifcggmdmoaaGreatDoorW20
import Derived.Deep.AppendLies
import Derived.Deep.Onto
import Derived.Test.YthppifcggmdmoaaGreatDoorW09
import Derived.Test.YthppifcggmdmoaaGreatDoorW08
import Derived.Test.YthppifcggmdmoaaGreatDoorW03
import Derived.Test.YthppifcggmdmoaaGreatDoorW17
import Derived.Test.YthppifcggmdmoaaGreatDoorW01
namespace Go.Proofs.YthppifcggmdmoaaGreatDoor
open Go.RowKit
set_option linter.unusedVariables false
set_option linter.unusedSimpArgs false
theorem info_RuS : (Tryz.prog.info? 70).map (fun i => (i.zero, i.size, i.bytes)) = some (some (.agg #[.string ⟨#[]⟩, .int .i64 0, .int .i64 0, .int .i64 0, .int .i64 0, .int .i64 0, .int .i64 0, .int .i64 0, .int .i64 0, .int .i64 0, .string ⟨#[]⟩]), 11, 104) := by kernel_rfl
theorem info_ZoS : (Tryz.prog.info? 75).map (fun i => (i.zero, i.size, i.bytes)) = some (some (.agg #[.string ⟨#[]⟩, .slice none 0 0]), 2, 40) := by kernel_rfl
theorem info_LkS : (Tryz.prog.info? 77).map (fun i => (i.zero, i.size, i.bytes)) = some (some (.agg #[.string ⟨#[]⟩, .string ⟨#[]⟩]), 2, 32) := by kernel_rfl
theorem info_ErS : (Tryz.prog.info? 80).map (fun i => (i.zero, i.size, i.bytes)) = some (some (.agg #[.int .i64 0, .string ⟨#[]⟩, .int .i64 0, .string ⟨#[]⟩, .int .i64 0]), 5, 56) := by kernel_rfl
def zoS (z : ZoT) : Value := .slice z.A z.eras.length z.cap
theorem own_hK {W W2 : World} {base e size n : Nat} {v : Value} {xs : List Value} (h : W.ownsRow base e size v n xs) (hk : ∀ k, v.ownBlock = some k → W2.heap[k]? = W.heap[k]?) : W2.ownsRow base e size v n xs := by
 refine ⟨h.1, ?_⟩
 rcases h.2 with h | ⟨g, c, cur, a1, a2, a3, a4⟩
 ·exact Or.inl h
 ·refine Or.inr ⟨g, c, cur, a1, a2, ?_, a4⟩
  rw [hk g (by rw [a1]; rfl)]; exact a3
theorem own_off {W : World} {base e size n : Nat} {v : Value} {xs : List Value} (h : W.ownsRow base e size v n xs) {a : Addr} (hne : v.ownBlock ≠ some a.block) (u : Value) : (W.setCell a u).ownsRow base e size v n xs :=
 own_hK h (fun k hk => Below.heap_setCell _ _ _ _ (fun e => hne (by rw [hk, e])))
structure PbM (w : World) (base : Nat) (RV ZV LV : Value) (rs : List RuT) (zs : List ZoT) (ls : List LkT) : Prop where
 hR : w.ownsRow base 70 11 RV rs.length (rs.map ruC).flatten
 hZ : w.ownsRow base 75 2 ZV zs.length (zs.map zoC).flatten
 hL : w.ownsRow base 77 2 LV ls.length (ls.map lkC).flatten
 hE : ∀ z ∈ zs, w.ownsRow base 80 5 (zoS z) z.eras.length (z.eras.map erC).flatten
 hD : zs.Pairwise fun a b => (zoS a).ownBlock = none ∨ (zoS a).ownBlock ≠ (zoS b).ownBlock
theorem PbM.nil (w : World) (base : Nat) : PbM w base (.slice none 0 0) (.slice none 0 0) (.slice none 0 0) [] [] [] :=
 ⟨World.ownsRow_nil _ _ _ _, World.ownsRow_nil _ _ _ _, World.ownsRow_nil _ _ _ _, fun z h => (by cases h), List.Pairwise.nil⟩
section
variable {w w' : World} {base : Nat} {RV ZV LV : Value} {rs : List RuT} {zs : List ZoT} {ls : List LkT}
theorem PbM.step (h : PbM w base RV ZV LV rs zs ls) (hb : Below w.heap.size w w') : PbM w' base RV ZV LV rs zs ls :=
 ⟨own_step h.hR hb, own_step h.hZ hb, own_step h.hL hb, fun z hz => own_step (h.hE z hz) hb, h.hD⟩
theorem PbM.off (h : PbM w base RV ZV LV rs zs ls) {g : Nat} {t : TypeId} {cs : Array Value} (hb : Blk w g t cs) (h1 : t ≠ 70) (h2 : t ≠ 75) (h3 : t ≠ 77) (h4 : t ≠ 80) (i : Nat) (u : Value) : PbM (w.setCell ⟨g, i, none⟩ u) base RV ZV LV rs zs ls :=
 ⟨own_off h.hR (a := ⟨g, i, none⟩) (hb.own_ne h.hR h1) u, own_off h.hZ (a := ⟨g, i, none⟩) (hb.own_ne h.hZ h2) u, own_off h.hL (a := ⟨g, i, none⟩) (hb.own_ne h.hL h3) u, fun z hz => own_off (h.hE z hz) (a := ⟨g, i, none⟩) (hb.own_ne (h.hE z hz) h4) u, h.hD⟩
theorem PbM.addR (h : PbM w base RV ZV LV rs zs ls) {RV' : Value} {r : RuT} (ho : w'.ownsRow base 70 11 RV' (rs.length + 1) ((rs.map ruC).flatten ++ ruC r)) (hg : w.grownBy w' RV.ownBlock) : PbM w' base RV' ZV LV (rs ++ [r]) zs ls :=
  ⟨by have e : ((rs ++ [r]).map ruC).flatten = (rs.map ruC).flatten ++ ruC r := by simp
      rw [e, List.length_append]; exact ho,
    h.hZ.kept hg (own_ne h.hZ h.hR (by decide)), h.hL.kept hg (own_ne h.hL h.hR (by decide)), fun z hz => (h.hE z hz).kept hg (own_ne (h.hE z hz) h.hR (by decide)), h.hD⟩
theorem PbM.addZ (h : PbM w base RV ZV LV rs zs ls) {ZV' : Value} {nm : ByteArray} (ho : w'.ownsRow base 75 2 ZV' (zs.length + 1) ((zs.map zoC).flatten ++ [.string nm, .slice none 0 0])) (hg : w.grownBy w' ZV.ownBlock) : PbM w' base RV ZV' LV rs (zs ++ [⟨nm, none, 0, []⟩]) ls := by
 refine ⟨h.hR.kept hg (own_ne h.hR h.hZ (by decide)), ?_, h.hL.kept hg (own_ne h.hL h.hZ (by decide)), fun z hz => ?_, ?_⟩
 ·have e : ((zs ++ [(⟨nm, none, 0, []⟩ : ZoT)]).map zoC).flatten = (zs.map zoC).flatten ++ [.string nm, .slice none 0 0] := by simp [zoC]
  rw [e, List.length_append]; exact ho
 ·rcases List.mem_append.1 hz with hz | hz
  ·exact (h.hE z hz).kept hg (own_ne (h.hE z hz) h.hZ (by decide))
  ·rw [List.mem_singleton.1 hz]; exact World.ownsRow_nil _ _ _ _
 ·refine List.pairwise_append.2 ⟨h.hD, List.pairwise_singleton _ _, fun a _ b hb => ?_⟩
  rw [List.mem_singleton.1 hb]
  by_cases e : (zoS a).ownBlock = none
  ·exact Or.inl e
  ·exact Or.inr e
theorem PbM.addL (h : PbM w base RV ZV LV rs zs ls) {LV' : Value} {x : LkT} (ho : w'.ownsRow base 77 2 LV' (ls.length + 1) ((ls.map lkC).flatten ++ lkC x)) (hg : w.grownBy w' LV.ownBlock) : PbM w' base RV ZV LV' rs zs (ls ++ [x]) :=
  ⟨h.hR.kept hg (own_ne h.hR h.hL (by decide)), h.hZ.kept hg (own_ne h.hZ h.hL (by decide)),
    by have e : ((ls ++ [x]).map lkC).flatten = (ls.map lkC).flatten ++ lkC x := by simp
       rw [e, List.length_append]; exact ho,
    fun z hz => (h.hE z hz).kept hg (own_ne (h.hE z hz) h.hL (by decide)), h.hD⟩
theorem zo_len2 (zs : List ZoT) : ∀ xs ∈ zs.map zoC, xs.length = 2 := by intro xs hx; obtain ⟨t, _, rfl⟩ := List.mem_map.1 hx; rfl
theorem zo_flen (zs : List ZoT) : (zs.map zoC).flatten.length = zs.length * 2 := by rw [flat_len (size := 2) _ (zo_len2 zs), List.length_map]
theorem PbM.addE {Y : List ZoT} {z : ZoT} {Zb cz : Nat} (h : PbM w base RV (.slice (some ⟨Zb, 0, none⟩) (Y.length + 1) cz) LV rs (Y ++ [z]) ls) {x : ErT} {g c : Nat} (ho : w'.ownsRow base 80 5 (.slice (some ⟨g, 0, none⟩) (z.eras.length + 1) c) (z.eras.length + 1) ((z.eras.map erC).flatten ++ erC x)) (hg : w.grownBy w' (zoS z).ownBlock) (hf : (zoS z).ownBlock = some g ∨ w.heap.size ≤ g) :
  PbM (w'.setCell ⟨Zb, Y.length * 2 + 1, none⟩ (.slice (some ⟨g, 0, none⟩) (z.eras.length + 1) c)) base RV (.slice (some ⟨Zb, 0, none⟩) (Y.length + 1) cz) LV rs (Y ++ [⟨z.name, some ⟨g, 0, none⟩, c, z.eras ++ [x]⟩]) ls := by
 have hz : z ∈ Y ++ [z] := by simp
 have hEz := h.hE z hz
 have hZ1 := h.hZ.kept hg (own_ne h.hZ hEz (by decide))
 have hR1 := h.hR.kept hg (own_ne h.hR hEz (by decide))
 have hL1 := h.hL.kept hg (own_ne h.hL hEz (by decide))
 have nb : ∀ {base' e size n : Nat} {v : Value} {xs : List Value}, w'.ownsRow base' e size v n xs → e ≠ 75 → v.ownBlock ≠ some Zb := fun h1 hne e2 => by
  rcases own_ne h1 hZ1 hne with h2 | h2
  ·rw [h2] at e2; cases e2
  ·exact h2 (by rw [e2]; rfl)
 have hYE : ∀ y ∈ Y, w'.ownsRow base 80 5 (zoS y) y.eras.length (y.eras.map erC).flatten := fun y hy => by
  have hd := (List.pairwise_append.1 h.hD).2.2 y hy z (by simp)
  exact (h.hE y (by simp [hy])).kept hg hd
 refine ⟨own_off hR1 (a := ⟨Zb, Y.length * 2 + 1, none⟩) (nb hR1 (by decide)) _, ?_, own_off hL1 (a := ⟨Zb, Y.length * 2 + 1, none⟩) (nb hL1 (by decide)) _, fun q hq => ?_, ?_⟩
 ·have hl : (Y ++ [z]).length = Y.length + 1 := by simp
  rw [hl] at hZ1
  have h2 := (hZ1.stored (Y.length * 2 + 1) (.slice (some ⟨g, 0, none⟩) (z.eras.length + 1) c)).1
  have e : (((Y ++ [z]).map zoC).flatten).set (Y.length * 2 + 1) (.slice (some ⟨g, 0, none⟩) (z.eras.length + 1) c) = ((Y ++ [(⟨z.name, some ⟨g, 0, none⟩, c, z.eras ++ [x]⟩ : ZoT)]).map zoC).flatten := by
   rw [List.map_append, List.flatten_append, List.map_append, List.flatten_append, List.set_append_right _ _ (by rw [zo_flen]; omega), zo_flen]
   congr 1
   rw [show Y.length * 2 + 1 - Y.length * 2 = 1 by omega]
   simp [zoC]
  rw [e] at h2
  simpa using h2
 ·rcases List.mem_append.1 hq with hq | hq
  ·exact own_off (hYE q hq) (a := ⟨Zb, Y.length * 2 + 1, none⟩) (nb (hYE q hq) (by decide)) _
  ·rw [List.mem_singleton.1 hq]
   have ho2 : w'.ownsRow base 80 5 (zoS ⟨z.name, some ⟨g, 0, none⟩, c, z.eras ++ [x]⟩) (z.eras ++ [x]).length ((z.eras ++ [x]).map erC).flatten := by
    have e : ((z.eras ++ [x]).map erC).flatten = (z.eras.map erC).flatten ++ erC x := by simp
    unfold zoS
    rw [e, List.length_append]; exact ho
   exact own_off ho2 (a := ⟨Zb, Y.length * 2 + 1, none⟩) (nb ho2 (by decide)) _
 ·obtain ⟨d1, d2, d3⟩ := List.pairwise_append.1 h.hD
  refine List.pairwise_append.2 ⟨d1, List.pairwise_singleton _ _, fun a ha b hb => ?_⟩
  rw [List.mem_singleton.1 hb]
  by_cases e : (zoS a).ownBlock = none
  ·exact Or.inl e
  ·right
   show (zoS a).ownBlock ≠ some g
   rcases hf with hf | hf
   ·rcases d3 a ha z (by simp) with h2 | h2
    ·exact absurd h2 e
    ·rw [← hf]; exact h2
   ·intro e2
    have := ((h.hE a (by simp [ha])).lt g e2).2
    omega
theorem PbM.book (h : PbM w base RV ZV LV rs zs ls) (G : PbG ⟨rs, zs.map zoP, ls, false⟩) : ∃ D : BkD, D.rs = rs ∧ D.zs = zs ∧ D.ls = ls ∧ RV = .slice D.AR D.rs.length D.cR ∧ ZV = .slice D.AZ D.zs.length D.cZ ∧ LV = .slice D.AL D.ls.length D.cL ∧ BkOk w w.heap.size D := by
 obtain ⟨AR, cR, e1, a1, b1, s1⟩ := own_at (xss := rs.map ruC) (by simpa using h.hR) (by intro xs hx; obtain ⟨t, _, rfl⟩ := List.mem_map.1 hx; rfl)
 obtain ⟨AZ, cZ, e2, a2, b2, s2⟩ := own_at (xss := zs.map zoC) (by simpa using h.hZ) (by intro xs hx; obtain ⟨t, _, rfl⟩ := List.mem_map.1 hx; rfl)
 obtain ⟨AL, cL, e3, a3, b3, s3⟩ := own_at (xss := ls.map lkC) (by simpa using h.hL) (by intro xs hx; obtain ⟨t, _, rfl⟩ := List.mem_map.1 hx; rfl)
 rw [List.length_map] at e1 e2 e3 a1 a2 a3
 refine ⟨⟨AR, AZ, AL, cR, cZ, cL, rs, zs, ls⟩, rfl, rfl, rfl, e1, e2, e3, ⟨s1, s2, s3, a1, a2, a3, b1, b2, b3, fun r hr => ?_, fun z hz => ?_, G.lk⟩⟩
 ·obtain ⟨q1, q2, q3, q4, q5⟩ := rule_ok (G.ru r hr)
  have hd := dcOk_iff.1 q4
  unfold ruOk wf63 maxLen
  refine ⟨by omega, by omega, by omega, by omega, by omega, by omega, by omega, by omega, by omega, by omega, by omega⟩
 ·have hg := G.zo (zoP z) (List.mem_map.2 ⟨z, hz, rfl⟩)
  obtain ⟨A, c, e, a, b, sl⟩ := own_at (xss := z.eras.map erC) (by simpa using h.hE z hz) (by intro xs hx; obtain ⟨t, _, rfl⟩ := List.mem_map.1 hx; rfl)
  rw [List.length_map] at e a
  unfold zoS at e
  simp only [Value.slice.injEq, true_and] at e
  obtain ⟨e4, e5⟩ := e
  exact ⟨hg.1, by rw [e4]; exact sl, by rw [e5]; exact a, by rw [e5]; exact b, hg.2⟩
end
end Go.Proofs.YthppifcggmdmoaaGreatDoor

namespace Go.Proofs.YthppifcggmdmoaaGreatDoor
open Go.RowKit
set_option linter.unusedVariables false
theorem d_weekday (x : ByteArray) (w : World) : Calls Tryz.prog 138 #[.string x] w fun e w' => e = .returned (.int .i64 (Lib.idxOfS dayB x)) ∧ Below w.heap.size w w' := by
 go_enter Tryz.func138, Tryz.ntmps138
 go_wp2_with fail
 refine (Tryz.slices_Index_string w.heap.size 0 7 7 dayB x _ (by decide) (by decide) (fun j hj => ?_)).mono ?_
 ·rw [cell_new _ _ _ _ _ rfl]
  have hj' : j < 7 := hj
  rcases (show j = 0 ∨ j = 1 ∨ j = 2 ∨ j = 3 ∨ j = 4 ∨ j = 5 ∨ j = 6 by omega) with rfl | rfl | rfl | rfl | rfl | rfl | rfl
  all_goals rfl
 rintro e w' ⟨rfl, rfl⟩
 go_wp2_with fail
 go_ret
 exact ⟨rfl, (Below.refl _ _).alloc (Nat.le_refl _) _⟩
structure RdX (w : World) : Prop where
 es : ∃ te pe, w.cell? ⟨4, 0, none⟩ = some (.iface te pe)
 er : ∃ te pe, w.cell? ⟨5, 0, none⟩ = some (.iface te pe)
 ml : ∃ m, w.cell? ⟨0, 0, none⟩ = some (.int .i64 m)
theorem RdX.to {B : Nat} {w w' : World} (h : RdX w) (hb : Below B w w') (hB : w.heap.size ≤ B) : RdX w' := by
 obtain ⟨⟨t1, p1, h1⟩, ⟨t2, p2, h2⟩, ⟨m, h3⟩⟩ := h
 exact ⟨⟨t1, p1, (hb.cell (show (⟨4, 0, none⟩ : Addr).block < B from Nat.lt_of_lt_of_le (Lib.lt_of_cell h1) hB)).trans h1⟩, ⟨t2, p2, (hb.cell (show (⟨5, 0, none⟩ : Addr).block < B from Nat.lt_of_lt_of_le (Lib.lt_of_cell h2) hB)).trans h2⟩, ⟨m, (hb.cell (show (⟨0, 0, none⟩ : Addr).block < B from Nat.lt_of_lt_of_le (Lib.lt_of_cell h3) hB)).trans h3⟩⟩
theorem RdX.on {w w' : World} (h : RdX w) (hb : Below w.heap.size w w') : RdX w' := h.to hb (Nat.le_refl _)
theorem RdX.atoi {w : World} (h : RdX w) (s : ByteArray) (hs : s.size ≤ 281474976710656) :
  Calls Tryz.prog 92 #[.string s] w fun e w' => ∃ er, e = .returned (.tuple #[.int .i64 (atV s.data.toList), er]) ∧ Below w.heap.size w w' := by
 obtain ⟨⟨t1, p1, h1⟩, ⟨t2, p2, h2⟩, _⟩ := h
 exact atoi_any s hs t1 t2 p1 p2 w h1 h2
theorem RdX.cut {w : World} (h : RdX w) (s sep : ByteArray) (hs : s.size < 4294967281) :
  Calls Tryz.prog 69 #[.string s, .string sep] w fun e w' => e = .returned (.tuple #[.string ⟨(Lib.cut s.data.toList sep.data.toList).1.toArray⟩, .string ⟨(Lib.cut s.data.toList sep.data.toList).2.1.toArray⟩, .bool (Lib.cut s.data.toList sep.data.toList).2.2]) ∧ Below w.heap.size w w' := by
 obtain ⟨_, _, ⟨m, h3⟩⟩ := h
 refine (Tryz.strings_Cut s sep m w hs h3).mono ?_
 rintro e w' ⟨rfl, n, rfl⟩
 exact ⟨rfl, below_drewN (Below.refl _ _) n⟩
end Go.Proofs.YthppifcggmdmoaaGreatDoor

namespace Go.Proofs.YthppifcggmdmoaaGreatDoor
open Go.RowKit
set_option linter.unusedVariables false
set_option maxRecDepth 100000 in
set_option maxHeartbeats 2000000 in
theorem d_Text (k wd n : Int) (w : World) :
  Calls Tryz.prog 139 #[.agg #[.int .i64 k, .int .i64 wd, .int .i64 n]] w fun e w' => e = .returned (.tuple #[.string (dtV k wd n), .int .i64 (dcE k wd n)]) ∧ Below w.heap.size w w' := by
 cases h : dcOk k wd n with
 | false =>
  rw [dtV_no h, dcE_no h]
  have hE := dcE_no h
  clear h
  go_enter Tryz.func139, Tryz.ntmps139
  go_wp2_with fail
  refine (d_Check _ _ _ _).mono ?_
  rintro e w1 ⟨rfl, hb⟩
  obtain ⟨c0, c1, c2, hz, hb'⟩ := box3 hb
  clear hb
  go_wp2_with fail
  go_ret2
  exact ⟨rfl, hb'⟩
 | true =>
  rw [dtV_ok h, dcE_ok h]
  have hE := dcE_ok h
  obtain ⟨hk, ⟨j, rfl, hj⟩, m, rfl, hm⟩ := day_cases h
  have hw : wordV j = WK.extract (3 * j) (3 * j + 3) := by rw [wordV]; congr 1
  have hd : digV m = ⟨(Lib.decDigits m).toArray⟩ := rfl
  have HS := Lib.hid (dig_size (n := m) (by omega))
  rw [WK] at hw
  clear h
  rcases hk with rfl | rfl | rfl | rfl
  all_goals
   first | rw [dtT_1] | rw [dtT_2] | rw [dtT_3] | rw [dtT_4]
   try rw [hw]
   try rw [hd]
   clear hw hd
   go_enter Tryz.func139, Tryz.ntmps139
   go_wp2_with fail
   refine (d_Check _ _ _ _).mono ?_
   rintro e w1 ⟨rfl, hb⟩
   obtain ⟨c0, c1, c2, hz, hb'⟩ := box3 hb
   clear hb
   have hj0 : (0 : Int) ≤ (j : Int) := by omega
   have hj1 : (0 : Int) ≤ 3 * (j : Int) := by omega
   have hj2 : 3 * (j : Int) + 3 ≤ 21 := by omega
   have hj3 : 3 * (j : Int) ≤ 3 * (j : Int) + 3 := by omega
   have hj4 : (0 : Int) ≤ 3 * (j : Int) + 3 := by omega
   have hw1 : IntKind.i64.wrap (3 * (j : Int)) = 3 * (j : Int) := IntWalk.i64_in _ (by omega)
   have hw2 : IntKind.i64.wrap (3 * (j : Int) + 3) = 3 * (j : Int) + 3 := IntWalk.i64_in _ (by omega)
   have hs1 := HS.out
   have hs2 : (Lib.decDigits m).length ≤ 2 := hs1
   go_wp2_with fail
   go_quiet ((go_at_call 79; exact Calls.quiet_of_same (Tryz.strconv_Itoa_small m (by omega) _)))
   go_wp2_with fail
  all_goals
   go_ret2
   exact ⟨rfl, below_drewN hb' _⟩
end Go.Proofs.YthppifcggmdmoaaGreatDoor

