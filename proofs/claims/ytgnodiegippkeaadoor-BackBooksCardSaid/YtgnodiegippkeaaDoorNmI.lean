/- Walk of the reference's Norm. -/
import Derived.Test.YtgnodiegippkeaaDoorNmH
import Derived.Test.YtgnodiegippkeaaDoorTabOfR
namespace Go.Proofs.YtgnodiegippkeaaDoor
open Go.RowKit
set_option linter.unusedVariables false
attribute [local go_sem ↓] Go.wp_at_zero Go.wp_at_succ
theorem info_int : (Tryd.prog.info? 3).map (fun i => (i.zero, i.size, i.bytes)) = some (some (.int .i64 0), 1, 8) := by kernel_rfl
theorem call_Norm1 (W : World) (args : Array Value) : (callFunc 48 args).run Tryd.prog W = .ok (.enter 48 args) W := by rfl
set_option maxRecDepth 100000 in
set_option maxHeartbeats 2000000 in
theorem r_Norm1 (A C : Option Addr) (capT capC : Nat) (ts : List Ty) (first : Int) (cs : List Ch) (time : Int) (g : Nat) (w : World) (hg : Bx g w #[.slice A ts.length capT, .int .i64 first, .slice C cs.length capC]) (H : TabAt w A C capT capC ts cs) (K : TabOk ts first cs) :
    Calls Tryd.prog 48 #[.int .i64 time, .pointer (some ⟨g, 0, none⟩)] w fun e w' => e = .returned (tyV (tabOf ts first cs time)) ∧ Below w.heap.size w w' := by
  have hb0 : Below w.heap.size w (w.alloc (.cells #[.int .i64 0, .bool false, .string ⟨#[]⟩] 66)) := (by repeat (first | exact Below.refl _ _ | assumption | apply Below.drew | apply below_drewN | (refine Below.alloc ?_ (by simp; try omega) _) | (refine Below.setCell ?_ (by simp; try omega) _)))
  have hx := (hg.alloc (.cells #[.int .i64 0, .bool false, .string ⟨#[]⟩] 66)).1
  have HX := Lib.hid (Bx.new w #[.int .i64 0, .bool false, .string ⟨#[]⟩] 66)
  have HC := Lib.hid (r_TableOf A C capT capC ts first cs time _ (H.below hb0) K)
  have HB := Lib.hid hb0
  clear hg hb0
  go_enter Tryd.func48, Tryd.ntmps48
  go_wp2_with fail
  refine (show Calls Tryd.prog _ _ _ _ from HC.out).mono ?_
  rintro e w2 ⟨rfl, hb⟩
  have hB := HB.out.trans (hb.mono HB.out.size)
  have x2 := HX.out.step hb
  have z2 := x2.1
  have z3 := x2.2.1
  have z4 := x2.2.2
  clear hx hb HX HC HB
  obtain ⟨y, hy⟩ : ∃ y, tabOf ts first cs time = y := ⟨_, rfl⟩
  rw [hy]
  have HY := Lib.hid hy
  clear hy
  go_wp2_with fail
  obtain ⟨q0, q1, q2⟩ := cells3 (W := w2) (g := w.heap.size) (x := .int .i64 y.1) (y := .bool y.2.1) (z := .string y.2.2) (z2 0) (z2 1) (z2 2)
  exact bodyPost_ret (v := tyV y) (by simp [results, Tryd.results48, go_sem, q0, q1, q2]) rfl ⟨by rw [HY.out], below3 hB (Nat.le_refl _)⟩
set_option maxRecDepth 100000 in
set_option maxHeartbeats 4000000 in
theorem r_Norm (A C : Option Addr) (capT capC : Nat) (ts : List Ty) (first : Int) (cs : List Ch) (w : World) (H : TabAt w A C capT capC ts cs) (K : TabOk ts first cs) :
    Calls Tryd.prog 27 #[.agg #[.slice A ts.length capT, .int .i64 first, .slice C cs.length capC]] w (TabPost (normSt ts first cs) w) := by
  have m1 := H.mT
  have m2 := H.mC
  have m3 := H.cT
  have m4 := H.cC
  have k1 := K.tmax
  have k2 := K.cmax
  unfold maxLen at m1 m2
  have r1 := K.first0
  have r2 := K.first1
  obtain ⟨i0, hi0, hz0, hz1, hz2⟩ := info_parts info_int
  obtain ⟨f, rfl⟩ : ∃ f : Nat, first = f := ⟨first.toNat, by omega⟩
  have htn : f < ts.length := by omega
  obtain ⟨q1, q2, q4, q5, hb0⟩ := boxes2 w #[.slice A ts.length capT, .int .i64 f, .slice C cs.length capC] #[.slice none 0 0, .int .i64 0, .slice none 0 0] 32 32
  obtain ⟨bt, ot, hA, hbt, d0, d1, d2⟩ := ty_at (H.T.below hb0) htn
  subst hA
  have H0 := Lib.hid (H.below hb0)
  have HT0 : (ts.getD f tyZero) = ts[f] := by simp [List.getD, htn]
  have HN := Lib.hid (show nBuild ts[f] ((cs.map Prod.fst).map fun a => (a, tabOf ts f cs a)) = normSt ts f cs by
    rw [normSt, ← norm_ref K, ← HT0, List.map_map]; rfl)
  have hnm : ts[f].2.2.size ≤ maxLen := H.names _ (List.getElem_mem htn)
  obtain ⟨tt, htt⟩ : ∃ tt : Ty, ts[f] = tt := ⟨_, rfl⟩
  rw [htt] at d0 d1 d2 HN hnm
  have X1 := Lib.hid (show Bx w.heap.size _ _ from ⟨q1, fun i => by rw [frozen_old _ _ _ (by rw [size_alloc]; exact Nat.lt_succ_self _), frozen_new _ _ _ _ _ rfl], by rw [q5]; omega⟩)
  have X2 := Lib.hid (show Bx (w.heap.size + 1) _ _ from ⟨q2, q4, by rw [q5]; omega⟩)
  have X5 := Lib.hid q5
  have HB := Lib.hid hb0
  have HNM := Lib.hid hnm
  have HTT := Lib.hid htt
  clear q1 q2 q4 q5 hb0 hnm HT0 d0 d1 d2 htt
  go_enter Tryd.func27, Tryd.ntmps27
  have x1 := X1.out.1
  go_wp2_with fail
  clear x1
  revert H0 X1 X2 X5 HB
  generalize (w.alloc (.cells #[.slice (some ⟨bt, ot, none⟩) ts.length capT, .int .i64 f, .slice C cs.length capC] 32)).alloc (.cells #[.slice none 0 0, .int .i64 0, .slice none 0 0] 32) = W1
  intro H0 X1 X2 X5 HB
  go_loopw [3, 9] (fun v i wr => ∃ k : Nat, k ≤ cs.length ∧ i = .int .i64 k ∧ wr.ownsRow W1.heap.size 3 1 v ((cs.map Prod.fst).take k).length ((((cs.map Prod.fst).take k).map inCells).flatten) ∧ Below W1.heap.size W1 wr) (fun _ i _ => cs.length - (intOf i).toNat)
  case atStart => exact ⟨0, Nat.zero_le _, rfl, World.ownsRow_nil _ _ _ _, Below.refl _ _⟩
  case round =>
    obtain ⟨k, hk, rfl, hO, hbr⟩ := hrel
    have hx1 := X1.out.step hbr
    have x1 := hx1.1
    have HO := Lib.hid hO
    have HR := Lib.hid hbr
    have hWr := hbr.size
    by_cases hlt : k < cs.length
    · obtain ⟨b, o, rfl, hb, c0, c1⟩ := ch_at (H0.out.C.below hbr) hlt
      obtain ⟨a, ha⟩ : ∃ a, cs[k].1 = a := ⟨_, rfl⟩
      rw [ha] at c0
      have hb' := Nat.lt_of_lt_of_le hb hbr.size
      have HT := Lib.hid (show (cs.map Prod.fst).take (k + 1) = (cs.map Prod.fst).take k ++ [a] by
        rw [List.take_succ_eq_append_getElem (by simpa using hlt), List.getElem_map, ha])
      have hl : ((cs.map Prod.fst).take k).length ≤ 1000 := by rw [List.length_take, List.length_map]; omega
      obtain ⟨s, hs⟩ : ∃ s, (cs.map Prod.fst).take k = s := ⟨_, rfl⟩
      rw [hs] at HO HT hl
      clear hO hbr ha hs hx1
      go_wp2_with (at_builtin; refine wpList_append_lies _ rfl _ _ _ rfl W1.heap.size 3 i0 _ 1 8 Tryd.underlying87 hi0 hz0 hz1 hz2 rfl (by omega) u3 s.length _ rfl ((HO.out.alloc _).alloc _) ⟨wr.heap.size + 1, 0, none⟩ 1 1 (inCells a) rfl rfl (World.news_of_block (cs := (inCells a).toArray) (t := 3) (fr := (0, 0)) (Blk.new' _ _ _ (by simp))) (by simp [Value.oneCell', inCells]) (by omega) (by unfold maxLen; omega) (by omega) (by simp; omega) (wr.heap.size + 1 + 1) (by simp) ?_; intro gg cap2 w6 hown1 hgrow hat hlt6)
      exact ⟨⟨k + 1, by omega, by go_num, by rw [HT.out]; simpa using hown1, ((HR.out.alloc hWr _).alloc (by simp; omega) _).trans (below_app (by simp; omega) ((HO.out.alloc _).alloc _) hgrow)⟩, by simp [intOf]; omega⟩
    · obtain rfl : k = cs.length := by omega
      rw [List.take_of_length_le (by simp)] at hO
      obtain ⟨A2, cap2, rfl, g1, g2, hA2⟩ := own_at (xss := (cs.map Prod.fst).map inCells) (by simpa using hO) (by intro xs hx; obtain ⟨t, _, rfl⟩ := List.mem_map.1 hx; rfl)
      rw [List.length_map] at *
      obtain ⟨bt2, ot2, he, hbt2, d0, d1, d2⟩ := ty_at (H0.out.T.below hbr) htn
      cases he
      rw [HTT.out] at d0 d1 d2
      have hHw := H0.out.below hbr
      have hf := (r_built tt A2 cap2 (cs.map Prod.fst) 48 (.pointer (some ⟨w.heap.size, 0, none⟩)) (fun a => tabOf ts f cs a) wr hA2 g1 g2 (by simpa using k2) HNM.out (fun a => getD_all (fun t ht => H.names t ht)) call_Norm1
        (fun W a _ hW => r_Norm1 _ _ _ _ ts f cs a w.heap.size W (hx1.step hW) (hHw.below hW) K))
      rw [HN.out, List.length_map] at hf
      have HF := Lib.hid hf
      clear hf
      have z2 := X2.out.step hbr
      have HX := Lib.hid z2
      have hB3 := HB.out.trans (hbr.mono (by rw [X5.out]; omega))
      clear hO HO hA2 hbr HR hHw hx1 z2
      go_wp2_with fail
      refine (show Calls Tryd.prog _ _ _ _ from HF.out).mono ?_
      rintro e w2 ⟨A3, C3, cT3, cC3, rfl, HT, ha1, ha2, hb⟩
      have hx := HX.out.step hb
      have hr := hx.1
      have hfz := hx.2.1
      have hz := hx.2.2
      have hB4 := hB3.trans (hb.mono hB3.size)
      have hlow : w.heap.size + 1 < wr.heap.size := HX.out.2.2
      obtain ⟨s, hs⟩ : ∃ s, normSt ts f cs = s := ⟨_, rfl⟩
      rw [hs] at HT ⊢
      have HS := Lib.hid hs
      have HH := Lib.hid (((HT.far (i := 0) ha1 ha2 hlow (.slice A3 s.ts.length cT3)).far (i := 1) ha1 ha2 hlow (.int .i64 0)).far (i := 2) ha1 ha2 hlow (.slice C3 s.cs.length cC3))
      have HA1 := Lib.hid (ha1.mono hB3.size)
      have HA2 := Lib.hid (ha2.mono hB3.size)
      clear ha1 ha2 hb HT hs x1 d0 d1 d2 hx HX HF
      go_wp2_with fail
      obtain ⟨q0, q1, q2⟩ := cells3 (W := w2) (g := w.heap.size + 1) (x := .slice A3 s.ts.length cT3) (y := .int .i64 0) (z := .slice C3 s.cs.length cC3) (hr 0) (hr 1) (hr 2)
      exact bodyPost_ret (v := .agg #[.slice A3 s.ts.length cT3, .int .i64 0, .slice C3 s.cs.length cC3]) (by simp [results, Tryd.results27, go_sem, q0, q1, q2]) rfl ⟨A3, C3, cT3, cC3, by rw [HS.out], by rw [HS.out]; exact HH.out, HA1.out, HA2.out, below3 hB4 (by omega)⟩
end Go.Proofs.YtgnodiegippkeaaDoor
