/- Walk of wall.Long. -/
import Derived.Test.YtgnodiegippkeaaWfB
import Derived.Test.YtgnodiegippkeaaWlP
import Derived.Test.YtgnodiegippkeaaRound
namespace Go.Proofs.Ytgnodiegippkeaa
open Go.RowKit Go.Shelf
set_option linter.unusedVariables false
attribute [local go_sem] Oper.semAt_some
set_option maxRecDepth 100000 in
set_option maxHeartbeats 4000000 in
theorem w_Long_ok (A C : Option Addr) (capT capC : Nat) (ts : List Ty) (first : Int) (cs : List Ch) (n : Int) (w : World) (H : TabAt w A C capT capC ts cs) (h0 : tabE ts first cs = 0) (n1 : -10000000 ≤ n) (n2 : n ≤ 10000000) :
    Calls Try.prog 21 #[.agg #[.slice A ts.length capT, .int .i64 first, .slice C cs.length capC], .int .i64 n] w fun e w' => e = .returned (.tuple #[.int .i64 (lgL n (pcAll ts first cs)), .int .i64 0]) ∧ Below w.heap.size w w' := by
  refine (callsIn_wide (n := 5)).1 ?_
  have HK := Lib.hid (tabOk h0)
  have hcm := HK.out.cmax
  have d1 : decide (n < -10000000) = false := decide_eq_false (by omega)
  have d2 : decide (10000000 < n) = false := decide_eq_false (by omega)
  have hbx : Below w.heap.size w ((w.alloc (.cells #[.slice A ts.length capT, .int .i64 first, .slice C cs.length capC] 25)).alloc (.cells #[.int .i64 n] 3)) := (by repeat (first | exact Below.refl _ _ | assumption | apply Below.drew | apply below_drewN | (refine Below.alloc ?_ (by simp; try omega) _) | (refine Below.setCell ?_ (by simp; try omega) _)))
  have HC := Lib.hid ((callsIn_wide (n := 4)).2 (t_Check A C capT capC ts first cs _ (H.below hbx)))
  rw [h0] at HC
  have B1 := Lib.hid ((Blk.new (w.alloc (.cells #[.slice A ts.length capT, .int .i64 first, .slice C cs.length capC] 25)) #[.int .i64 n] 3))
  have T1 := Lib.hid ((Blk.new w #[.slice A ts.length capT, .int .i64 first, .slice C cs.length capC] 25).alloc (.cells #[.int .i64 n] 3))
  rw [World.size_alloc] at B1
  clear h0
  refine callsIn_of_wp_marks Try.func21 rfl trivial ?_ rfl
  simp only [Try.ntmps21, List.size_toArray, List.length_cons, List.length_nil, Nat.reduceAdd, Nat.reduceSub, Array.replicate_succ, Array.replicate_zero, List.push_toArray, List.append_toArray, List.nil_append, List.cons_append]
  gi_wp2_with fail
  refine ⟨trivial, ?_⟩
  refine HC.out.mono ?_
  rintro e w1 ⟨rfl, hb⟩
  have b1 := B1.out.step hb
  have c1 := T1.out.step hb
  have hb1 := hbx.trans (hb.mono hbx.size)
  clear hb HC hbx B1 T1
  have b1c := b1.cell 0
  have c1c := c1.cell
  have b1l := b1.lt
  have c1l := c1.lt
  simp at b1c
  gi_wp2_with fail
  refine ⟨trivial, ?_⟩
  refine (pieces_in _ _ _ _ _).mono ?_
  rintro e w' ⟨rfl, rfl⟩
  gi_wp2_with fail
  have bO := (Boxed.new w1 3 (.int .i64 0)).alloc (.cells #[.slice A ts.length capT, .int .i64 first, .slice C cs.length capC] 25)
  have bT := Blk.new (w1.alloc (.cells #[.int .i64 0] 3)) #[.slice A ts.length capT, .int .i64 first, .slice C cs.length capC] 25
  rw [World.size_alloc] at bT
  have hB0 : Below w1.heap.size w1 ((w1.alloc (.cells #[.int .i64 0] 3)).alloc (.cells #[.slice A ts.length capT, .int .i64 first, .slice C cs.length capC] 25)) := ((Below.refl _ w1).alloc (Nat.le_refl _) _).alloc (by simp) _
  have hsz : ((w1.alloc (.cells #[.int .i64 0] 3)).alloc (.cells #[.slice A ts.length capT, .int .i64 first, .slice C cs.length capC] 25)).heap.size = w1.heap.size + 2 := by simp
  obtain ⟨W0, hW0⟩ : ∃ W0, ((w1.alloc (.cells #[.int .i64 0] 3)).alloc (.cells #[.slice A ts.length capT, .int .i64 first, .slice C cs.length capC] 25)) = W0 := ⟨_, rfl⟩
  rw [hW0] at bO bT hB0 hsz ⊢
  clear hW0 b1c c1c
  refine wpIn_rangeFunc_ownH rfl (by omega) (gf := 75) (lb := #[.pointer (some ⟨w1.heap.size + 1, 0, none⟩)]) rfl trivial (enters_of Try.func75 (by kernel_rfl) rfl)
    (pieces_stops (5 - 1) (by omega) (w1.heap.size + 1) w1.heap.size A C capT capC ts first cs w1 W0 HK.out (H.below hb1) hB0 bT rfl) KpT.trans (KpT.turn (by omega)) (Below.refl _ _) (fun _ => rfl)
    (fun (pre : List Nat) W => Boxed W w1.heap.size 3 (.int .i64 (lgL n (pre.map (pcAt ts first cs)))) ∧ Below w1.heap.size w1 W)
    (fun _ _ _ => False)
    (OwnFrom.and (Own.from (boxed_own _ _ (fun (pre : List Nat) => Value.int .i64 (lgL n (pre.map (pcAt ts first cs))))) _) (ownFrom_below (Nat.le_refl _) (by omega)))
    (fun _ _ _ _ _ hs _ _ => hs)
    ⟨bO, hB0⟩
    (fun x a' W => ∃ Bx, w1.heap.size < Bx ∧ Blk W Bx 75 #[.int .i64 (pcFrom cs x), .int .i64 (pcTo cs x)] ∧ a' = { tmps := #[.agg #[.slice A ts.length capT, .int .i64 first, .slice C cs.length capC], .int .i64 n, .pointer (some ⟨w.heap.size, 0, none⟩), .pointer (some ⟨w.heap.size + 1, 0, none⟩), .int .i64 0, .int .i64 0, .int .i64 0, .pointer (some ⟨w1.heap.size, 0, none⟩), .pointer (some ⟨Bx, 0, none⟩), .int .i64 (offK ts (pcK first cs x)), undef, undef, .agg #[.slice A ts.length capT, .int .i64 first, .slice C cs.length capC], .int .i64 0, .int .i64 0, .bool false, undef, .int .i64 n, .bool false, .bool false, .int .i64 n, .bool false, .bool false, .agg #[.slice A ts.length capT, .int .i64 first, .slice C cs.length capC], .func (.func 75) #[] #[.pointer (some ⟨w1.heap.size + 1, 0, none⟩)], .agg #[.int .i64 (pcFrom cs x), .int .i64 (pcTo cs x)], .int .i64 (offK ts (pcK first cs x)), undef, undef, undef, undef, undef, undef, undef, undef, undef, undef, undef, undef, undef, undef, undef, undef, undef, undef, undef, undef, undef, undef], defers := [] })
    (fun x a' _ X Y row hs hg hr => by obtain ⟨Bx, h1, h2, h3⟩ := hs; exact ⟨Bx, h1, blk_own Bx 75 (fun (_ : Unit) => #[.int .i64 (pcFrom cs x), .int .i64 (pcTo cs x)]) () X Y row h2 hg (fun r e => (hr r e).2), h3⟩)
    ?assign ?body ?done ?stop
  case assign =>
    rintro l' pre x W K ⟨bv, hB1⟩ hK
    have hvl := bv.lt
    gi_wp2
    exact hK _ _ ((KeepsOthers.alloc _ _).from _) (KpT.below ((Below.refl _ W).alloc (Nat.le_refl _) _) hB1.size) ⟨bv.alloc _, hB1.alloc hB1.size _⟩ ⟨W.heap.size, hvl, Blk.new W _ _, rfl⟩
  case body =>
    rintro l' pre x a' W hl ⟨r, hr⟩ ⟨hv, hB⟩ ⟨Bx, hBx, bX, rfl⟩ hlt
    obtain ⟨⟨f1, f2⟩, ⟨g1, g2⟩, ⟨o1, o2⟩⟩ := pc_any HK.out x
    have hrg := lgL_range n (pre.map (pcAt ts first cs))
    rw [List.length_map] at hrg
    have hsn : lgL n ((pre ++ [x]).map (pcAt ts first cs)) = lgL n (pre.map (pcAt ts first cs)) + max 0 (min (pcTo cs x) (86400 * (n + 1) - offK ts (pcK first cs x)) - max (pcFrom cs x) (86400 * n - offK ts (pcK first cs x))) := by
      rw [List.map_append]; exact lgL_snoc n _ (pcAt ts first cs x)
    obtain ⟨m, hm⟩ : ∃ y, lgL n (pre.map (pcAt ts first cs)) = y := ⟨_, rfl⟩
    obtain ⟨f0, hf0⟩ : ∃ y, pcFrom cs x = y := ⟨_, rfl⟩
    obtain ⟨g0, hg0⟩ : ∃ y, pcTo cs x = y := ⟨_, rfl⟩
    obtain ⟨o0, ho0⟩ : ∃ y, offK ts (pcK first cs x) = y := ⟨_, rfl⟩
    rw [hf0, hg0, ho0, hm] at hsn
    rw [hf0, hg0] at bX
    rw [hm] at hv hrg
    rw [hf0] at f1 f2 ⊢
    rw [hg0] at g1 g2 ⊢
    rw [ho0] at o1 o2 ⊢
    have HSN := Lib.hid hsn
    have m1 : 0 ≤ m ∧ m ≤ 100000000 := by omega
    obtain ⟨m2, m3⟩ := m1
    clear hf0 hg0 ho0 hsn hm hrg
    have bL := b1.below hB b1l
    have cL := bL.cell 0
    have cX0 := bX.cell 0
    have cX1 := bX.cell 1
    simp at cL cX0 cX1
    have cO := hv.cell
    have cF := hv.frozen
    have hmx : Try.prog.follows .mixedOrders = true := by kernel_rfl
    have hw1 : IntKind.i64.wrap (86400 * n) = 86400 * n := IntWalk.i64_in _ (by omega)
    have hw2 : IntKind.i64.wrap (86400 * n - o0) = 86400 * n - o0 := IntWalk.i64_in _ (by omega)
    have hw3 : IntKind.i64.wrap (n + 1) = n + 1 := IntWalk.i64_in _ (by omega)
    have hw4 : IntKind.i64.wrap (86400 * (n + 1)) = 86400 * (n + 1) := IntWalk.i64_in _ (by omega)
    have hw5 : IntKind.i64.wrap (86400 * (n + 1) - o0) = 86400 * (n + 1) - o0 := IntWalk.i64_in _ (by omega)
    gi_wp2_with fail
    refine wpIn_region_quiet_round rfl (by kernel_rfl) hmx (by kernel_rfl) ?_
    repeat (gi_big_quiet_step (fail))
    refine wpQuietIn_nil ?_
    intro _ hw'
    obtain ⟨nq, hw2⟩ := hw'
    subst hw2
    obtain ⟨fa, hfa⟩ : ∃ y, max f0 (86400 * n - o0) = y := ⟨_, rfl⟩
    obtain ⟨gb, hgb⟩ : ∃ y, min g0 (86400 * (n + 1) - o0) = y := ⟨_, rfl⟩
    have p1 : -1000000000000 ≤ fa ∧ fa ≤ 1099511627776 := by omega
    have p2 : -1099511627776 ≤ gb ∧ gb ≤ 1000000000000 := by omega
    obtain ⟨p11, p12⟩ := p1
    obtain ⟨p21, p22⟩ := p2
    obtain ⟨dd, hdd⟩ : ∃ y, max 0 (gb - fa) = y := ⟨_, rfl⟩
    have p3 : 0 ≤ dd ∧ dd ≤ 86400 := by omega
    obtain ⟨p31, p32⟩ := p3
    have hE := HSN.out
    rw [hgb, hfa, hdd] at hE
    have HE := Lib.hid hE
    have hvd : Boxed (W.drewN nq) w1.heap.size 3 (.int .i64 m) := hv
    have HK1 := Lib.hid (show KeepsOthers W ((W.drewN nq).setCell ⟨w1.heap.size, 0, none⟩ (.int .i64 (m + dd))) from (KeepsOthers.of_grownBy (W := W) (W' := W.drewN nq) (row := none) ⟨rfl, rfl, rfl, Nat.le_refl _, fun _ _ _ => rfl⟩ (fun j o h => by cases h)).trans (KeepsOthers.setCell _ _ _))
    have HK2 := Lib.hid ((KpT.below (below_drewN (Below.refl _ _) nq) hB.size).trans (KpT.stored (v' := .int .i64 (m + dd)) hvd (by decide) (by decide) (Nat.le_refl _)))
    have HK3 := Lib.hid (hvd.set (.int .i64 (m + dd)))
    have HK4 := Lib.hid ((below_drewN hB nq).setCell (p := ⟨w1.heap.size, 0, none⟩) (Nat.le_refl _) (.int .i64 (m + dd)))
    clear hw1 hw2 hw3 hw4 hw5 hE hvd
    gi_wp2_with fail
    exact ⟨HK1.out.from _, HK2.out, by rw [HE.out]; exact HK3.out, HK4.out⟩
  case done =>
    rintro D ys W hD rfl ⟨hv, hB⟩ hK
    have hc := hv.cell
    obtain ⟨m, hm⟩ : ∃ y, lgL n ((List.range (cs.length + 1)).map (pcAt ts first cs)) = y := ⟨_, rfl⟩
    have HM := Lib.hid (show lgL n (pcAll ts first cs) = m from hm)
    rw [hm] at hc
    clear hm
    gi_wp2
    refine ⟨by simp, .inl ⟨_, _, rfl, run_takeDeferred hK, ?_⟩⟩
    exact ⟨.tuple #[.int .i64 m, .int .i64 0], by simp [results, Try.results21, go_sem], by rw [HM.out], hb1.trans ((hB.trans (belowK_b (w := w1) (Nat.le_refl _) W D _ _ (by omega) hK rfl rfl)).mono hb1.size)⟩
  case stop =>
    rintro D c pre W _ _ h _
    exact h.elim
attribute [local go_sem ↓] Go.wp_at_zero Go.wp_at_succ
/-- the errors of Long -/
def longE (ts : List Ty) (first : Int) (cs : List Ch) (n : Int) : Int := if tabE ts first cs = 0 then if -10000000 ≤ n ∧ n ≤ 10000000 then 0 else 1 else tabE ts first cs
set_option maxRecDepth 100000 in
set_option maxHeartbeats 4000000 in
theorem w_Long_bad (A C : Option Addr) (capT capC : Nat) (ts : List Ty) (first : Int) (cs : List Ch) (n : Int) (w : World) (H : TabAt w A C capT capC ts cs) (h0 : ¬ longE ts first cs n = 0) :
    Calls Try.prog 21 #[.agg #[.slice A ts.length capT, .int .i64 first, .slice C cs.length capC], .int .i64 n] w
      fun e w' => e = .returned (.tuple #[.int .i64 0, .int .i64 (longE ts first cs n)]) ∧ Below w.heap.size w w' := by
  have hbx : Below w.heap.size w ((w.alloc (.cells #[.slice A ts.length capT, .int .i64 first, .slice C cs.length capC] 25)).alloc (.cells #[.int .i64 n] 3)) := (by repeat (first | exact Below.refl _ _ | assumption | apply Below.drew | apply below_drewN | (refine Below.alloc ?_ (by simp; try omega) _) | (refine Below.setCell ?_ (by simp; try omega) _)))
  have HC := Lib.hid (t_Check A C capT capC ts first cs _ (H.below hbx))
  have B1 := Lib.hid ((Blk.new (w.alloc (.cells #[.slice A ts.length capT, .int .i64 first, .slice C cs.length capC] 25)) #[.int .i64 n] 3))
  rw [World.size_alloc] at B1
  by_cases h1 : tabE ts first cs = 0
  · have h2 : ¬ (-10000000 ≤ n ∧ n ≤ 10000000) := fun hc => h0 (by rw [longE, if_pos h1, if_pos hc])
    have HE := Lib.hid (show longE ts first cs n = 1 by rw [longE, if_pos h1, if_neg h2])
    rw [HE.out]
    rw [h1] at HC
    have h3 : n < -10000000 ∨ (-10000000 ≤ n ∧ 10000000 < n) := by omega
    clear h0 h1 h2
    rcases h3 with h3 | ⟨h3, h4⟩
    all_goals
      go_enter Try.func21, Try.ntmps21
      go_wp2_with fail
      refine HC.out.mono ?_
      rintro e w1 ⟨rfl, hb⟩
      have b1 := (B1.out.step hb).cell 0
      simp at b1
      have hb1 := hbx.trans (hb.mono hbx.size)
      clear hb HC B1
      go_wp2_with fail
      go_ret2
      exact ⟨rfl, hb1⟩
  · have HE := Lib.hid (show longE ts first cs n = tabE ts first cs by rw [longE, if_neg h1])
    rw [HE.out]
    obtain ⟨ee, hee⟩ : ∃ ee, tabE ts first cs = ee := ⟨_, rfl⟩
    rw [hee] at HC h1 ⊢
    have h2 : (ee != 0) = true := by rw [bne_iff_ne]; exact h1
    clear h0 h1 hee HE B1
    go_enter Try.func21, Try.ntmps21
    go_wp2_with fail
    refine HC.out.mono ?_
    rintro e w1 ⟨rfl, hb⟩
    have hb1 := hbx.trans (hb.mono hbx.size)
    clear hb HC
    go_wp2_with fail
    go_ret2
    exact ⟨rfl, hb1⟩
end Go.Proofs.Ytgnodiegippkeaa
