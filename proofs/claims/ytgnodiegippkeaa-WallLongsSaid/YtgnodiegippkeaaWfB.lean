/- Walk of wall.Find. -/
import Derived.Test.YtgnodiegippkeaaWfA
import Derived.Test.YtgnodiegippkeaaWallA
import Derived.Test.YtgnodiegippkeaaNmI
import Derived.Test.YtgnodiegippkeaaNmE
import Derived.Maps.AppendAt
import Derived.Deep.Onto
namespace Go.Proofs.Ytgnodiegippkeaa
open Go.RowKit Go.Shelf
set_option linter.unusedVariables false
attribute [local go_sem] Oper.semAt_some
theorem blk_own {β : Type} (B : Nat) (t : TypeId) (f : β → Array Value) : Own (fun s W => Blk W B t (f s)) := fun s X Y row hs hg hrow =>
  hs.grown hg (fun e' => by obtain ⟨o, ho, hc⟩ := hrow B e'; rw [show X.heap[B]? = _ from hs] at ho; cases ho; cases hc)
theorem KpT.appended {W w1 : World} {n₀ B : Nat} {t e : TypeId} {size : Nat} {v v' : Value} {k : Nat} {xs : List Value} {tmp : Obj}
    (hv : Boxed w1 B t v) (hrow : W.ownsRow n₀ e size v k xs) (h1 : t ≠ 25) (h2 : t ≠ 84) (h3 : e ≠ 25) (h4 : e ≠ 84) (hgrow : (W.alloc tmp).grownBy w1 v.ownBlock)
    (hb : Below n₀ W (w1.setCell ⟨B, 0, none⟩ v')) : KpT n₀ W (w1.setCell ⟨B, 0, none⟩ v') := by
  refine ⟨hb, fun g t' cs ht hg => ?_⟩
  have hte : t' ≠ e := by rcases ht with rfl | rfl <;> first | exact h3.symm | exact h4.symm
  have htt : t' ≠ t := by rcases ht with rfl | rfl <;> first | exact h1.symm | exact h2.symm
  have k1 := (hg.alloc tmp).grown hgrow (hg.own_ne hrow hte)
  exact k1.far (a := ⟨B, 0, none⟩) (Blk.ne k1 (show Blk w1 B t #[v] from hv) htt) v'
theorem KpT.stored {W : World} {n₀ B : Nat} {t : TypeId} {v v' : Value} (hv : Boxed W B t v) (h1 : t ≠ 25) (h2 : t ≠ 84) (hB : n₀ ≤ B) : KpT n₀ W (W.setCell ⟨B, 0, none⟩ v') := by
  refine ⟨(Below.refl _ _).setCell (p := ⟨B, 0, none⟩) hB v', fun g t' cs ht hg => ?_⟩
  have htt : t' ≠ t := by rcases ht with rfl | rfl <;> first | exact h1.symm | exact h2.symm
  exact hg.far (a := ⟨B, 0, none⟩) (Blk.ne hg (show Blk W B t #[v] from hv) htt) v'
/-- what has been found when the pieces of these numbers have come -/
def fnd (ts : List Ty) (first : Int) (cs : List Ch) (l : Int) (pre : List Nat) : List Int := findL l (pre.map (pcAt ts first cs))
theorem fnd_length (ts : List Ty) (first : Int) (cs : List Ch) (l : Int) (pre : List Nat) : (fnd ts first cs l pre).length ≤ pre.length := by
  have := findL_length l (pre.map (pcAt ts first cs)); rwa [List.length_map] at this
theorem fnd_hit {ts : List Ty} {first : Int} {cs : List Ch} {l : Int} {pre : List Nat} {x : Nat} (h1 : pcFrom cs x ≤ l - offK ts (pcK first cs x)) (h2 : l - offK ts (pcK first cs x) < pcTo cs x) : fnd ts first cs l (pre ++ [x]) = fnd ts first cs l pre ++ [l - offK ts (pcK first cs x)] := by
  unfold fnd; rw [List.map_append]; exact findL_hit (p := pcAt ts first cs x) h1 h2
theorem fnd_miss {ts : List Ty} {first : Int} {cs : List Ch} {l : Int} {pre : List Nat} {x : Nat} (h : ¬ (pcFrom cs x ≤ l - offK ts (pcK first cs x) ∧ l - offK ts (pcK first cs x) < pcTo cs x)) : fnd ts first cs l (pre ++ [x]) = fnd ts first cs l pre := by
  unfold fnd; rw [List.map_append]; exact findL_miss (p := pcAt ts first cs x) h
theorem pc_any {ts : List Ty} {first : Int} {cs : List Ch} (h : TabOk ts first cs) (j : Nat) : (-4611686018427387904 ≤ pcFrom cs j ∧ pcFrom cs j ≤ 1099511627776) ∧ (-1099511627776 ≤ pcTo cs j ∧ pcTo cs j ≤ 4611686018427387903) ∧ (-75600 ≤ offK ts (pcK first cs j) ∧ offK ts (pcK first cs j) ≤ 75600) := by
  refine ⟨?_, pcTo_range h j, ?_⟩
  · by_cases hj : j ≤ cs.length
    · exact pcFrom_range h hj
    · unfold pcFrom
      rw [if_neg (by omega), show cs.getD (j - 1) (0, 0) = (0, 0) by rw [List.getD_eq_getElem?_getD, List.getElem?_eq_none (by omega)]; rfl]; simp
  · by_cases hj : j ≤ cs.length
    · have := pcK_range h hj; exact offK_range h this.1 this.2
    · have e : pcK first cs j = 0 := by
        unfold pcK
        rw [if_neg (by omega), show cs.getD (j - 1) (0, 0) = (0, 0) by rw [List.getD_eq_getElem?_getD, List.getElem?_eq_none (by omega)]; rfl]
      rw [e]; have := h.tpos; exact offK_range h (Int.le_refl _) (by omega)
set_option maxRecDepth 100000 in
set_option maxHeartbeats 4000000 in
theorem w_Find_ok (A C : Option Addr) (capT capC : Nat) (ts : List Ty) (first : Int) (cs : List Ch) (l : Int) (w : World) (H : TabAt w A C capT capC ts cs) (h0 : timedE ts first cs l = 0) :
    Calls Try.prog 12 #[.agg #[.slice A ts.length capT, .int .i64 first, .slice C cs.length capC], .int .i64 l] w
      fun e w' => ∃ v, e = .returned (.tuple #[v, .int .i64 0]) ∧ w'.ownsRow w.heap.size 3 1 v (findL l (pcAll ts first cs)).length ((findL l (pcAll ts first cs)).map (Value.int .i64)) ∧ Below w.heap.size w w' := by
  refine (callsIn_wide (n := 5)).1 ?_
  obtain ⟨h1, t1, t2⟩ := timed_parts h0
  have hK := tabOk h1
  have HK := Lib.hid hK
  have hcm := hK.cmax
  obtain ⟨i0, hi0, hz0, hz1, hz2⟩ := info_parts info_int
  have hbx : Below w.heap.size w ((w.alloc (.cells #[.slice A ts.length capT, .int .i64 first, .slice C cs.length capC] 25)).alloc (.cells #[.int .i64 l] 3)) := (by repeat (first | exact Below.refl _ _ | assumption | apply Below.drew | apply below_drewN | (refine Below.alloc ?_ (by simp; try omega) _) | (refine Below.setCell ?_ (by simp; try omega) _)))
  have HC := Lib.hid ((callsIn_wide (n := 4)).2 (w_check A C capT capC ts first cs l _ (H.below hbx)))
  rw [h0] at HC
  have B1 := Lib.hid ((Boxed.new (w.alloc (.cells #[.slice A ts.length capT, .int .i64 first, .slice C cs.length capC] 25)) 3 (.int .i64 l)))
  have T1 := Lib.hid ((Blk.new w #[.slice A ts.length capT, .int .i64 first, .slice C cs.length capC] 25).alloc (.cells #[.int .i64 l] 3))
  rw [World.size_alloc] at B1
  clear h0 h1 hK
  refine callsIn_of_wp_marks Try.func12 rfl trivial ?_ rfl
  simp only [Try.ntmps12, List.size_toArray, List.length_cons, List.length_nil, Nat.reduceAdd, Nat.reduceSub, Array.replicate_succ, Array.replicate_zero, List.push_toArray, List.append_toArray, List.nil_append, List.cons_append]
  gi_wp2_with (first | (refine ⟨trivial, ?_⟩; gi_at_call 39; refine HC.out.mono ?_; rintro e w1 ⟨rfl, hb⟩; have b1 := (show Blk _ _ _ #[_] from B1.out).step hb; have c1 := T1.out.step hb; have hb1 := hbx.trans (hb.mono hbx.size); clear hb HC; have b1c := b1.cell; have c1c := c1.cell; have b1l := b1.lt; have c1l := c1.lt) | (refine ⟨trivial, ?_⟩; gi_at_call 40; refine (pieces_in _ _ _ _ _).mono ?_; rintro e w' ⟨rfl, rfl⟩))
  have bO := (Boxed.new w1 26 (.slice none 0 0)).alloc (.cells #[.slice A ts.length capT, .int .i64 first, .slice C cs.length capC] 25)
  have bT := Blk.new (w1.alloc (.cells #[.slice none 0 0] 26)) #[.slice A ts.length capT, .int .i64 first, .slice C cs.length capC] 25
  rw [World.size_alloc] at bT
  have hB0 : Below w1.heap.size w1 ((w1.alloc (.cells #[.slice none 0 0] 26)).alloc (.cells #[.slice A ts.length capT, .int .i64 first, .slice C cs.length capC] 25)) := ((Below.refl _ w1).alloc (Nat.le_refl _) _).alloc (by simp) _
  have hsz : ((w1.alloc (.cells #[.slice none 0 0] 26)).alloc (.cells #[.slice A ts.length capT, .int .i64 first, .slice C cs.length capC] 25)).heap.size = w1.heap.size + 2 := by simp
  obtain ⟨W0, hW0⟩ : ∃ W0, ((w1.alloc (.cells #[.slice none 0 0] 26)).alloc (.cells #[.slice A ts.length capT, .int .i64 first, .slice C cs.length capC] 25)) = W0 := ⟨_, rfl⟩
  rw [hW0] at bO bT hB0 hsz ⊢
  clear hW0 b1c c1c T1 B1
  refine wpIn_rangeFunc_ownH rfl (by omega) (gf := 75) (lb := #[.pointer (some ⟨w1.heap.size + 1, 0, none⟩)]) rfl trivial (enters_of Try.func75 (by kernel_rfl) rfl)
    (pieces_stops (5 - 1) (by omega) (w1.heap.size + 1) w1.heap.size A C capT capC ts first cs w1 W0 HK.out (H.below hb1) hB0 bT rfl) KpT.trans (KpT.turn (by omega)) (Below.refl _ _) (fun _ => rfl)
    (fun pre W => (∃ v, Boxed W w1.heap.size 26 v ∧ W.ownsRow w1.heap.size 3 1 v (fnd ts first cs l pre).length ((fnd ts first cs l pre).map (Value.int .i64)) ∧ True) ∧ Below w1.heap.size w1 W)
    (fun _ _ _ => False)
    (OwnFrom.and (Own.from (holdsRow_own w1.heap.size w1.heap.size 26 3 1 (fun pre => (fnd ts first cs l pre).length) (fun pre => (fnd ts first cs l pre).map (Value.int .i64)) (fun pre v => True)) _) (ownFrom_below (Nat.le_refl _) (by omega)))
    (fun _ _ _ _ _ hs _ _ => hs)
    ⟨⟨_, bO, World.ownsRow_nil _ _ _ _, trivial⟩, hB0⟩
    (fun x a' W => ∃ Bx, w1.heap.size < Bx ∧ Blk W Bx 75 #[.int .i64 (pcFrom cs x), .int .i64 (pcTo cs x)] ∧ a' = { tmps := #[.agg #[.slice A ts.length capT, .int .i64 first, .slice C cs.length capC], .int .i64 l, .pointer (some ⟨w.heap.size, 0, none⟩), .pointer (some ⟨w.heap.size + 1, 0, none⟩), .slice none 0 0, .int .i64 0, .int .i64 0, .pointer (some ⟨w1.heap.size, 0, none⟩), .pointer (some ⟨Bx, 0, none⟩), .int .i64 (offK ts (pcK first cs x)), undef, .agg #[.slice A ts.length capT, .int .i64 first, .slice C cs.length capC], .int .i64 l, .int .i64 0, .int .i64 0, .bool false, undef, .agg #[.slice A ts.length capT, .int .i64 first, .slice C cs.length capC], .func (.func 75) #[] #[.pointer (some ⟨w1.heap.size + 1, 0, none⟩)], .agg #[.int .i64 (pcFrom cs x), .int .i64 (pcTo cs x)], .int .i64 (offK ts (pcK first cs x)), undef, undef, undef, undef, undef, undef, undef, undef, undef, undef, undef, undef, undef, undef, undef, undef, undef, undef], defers := [] })
    (fun x a' _ X Y row hs hg hr => by obtain ⟨Bx, h1, h2, h3⟩ := hs; exact ⟨Bx, h1, blk_own Bx 75 (fun (_ : Unit) => #[.int .i64 (pcFrom cs x), .int .i64 (pcTo cs x)]) () X Y row h2 hg (fun r e => (hr r e).2), h3⟩)
    ?assign ?body ?done ?stop
  case assign =>
    rintro l' pre x W K ⟨⟨v, bv, hv, _⟩, hB1⟩ hK
    have hvl := bv.lt
    gi_wp2
    exact hK _ _ ((KeepsOthers.alloc _ _).from _) (KpT.below ((Below.refl _ W).alloc (Nat.le_refl _) _) hB1.size) ⟨⟨v, bv.alloc _, hv.alloc _, trivial⟩, hB1.alloc hB1.size _⟩ ⟨W.heap.size, hvl, Blk.new W _ _, rfl⟩
  case body =>
    rintro l' pre x a' W hl ⟨r, hr⟩ ⟨⟨v, hv, hrow, _⟩, hB⟩ ⟨Bx, hBx, bX, rfl⟩ hlt
    have hK := pc_any HK.out x
    obtain ⟨⟨f1, f2⟩, ⟨g1, g2⟩, ⟨o1, o2⟩⟩ := hK
    have hfl := fnd_length ts first cs l pre
    have hhit := fnd_hit (ts := ts) (first := first) (cs := cs) (l := l) (pre := pre) (x := x)
    have hmiss := fnd_miss (ts := ts) (first := first) (cs := cs) (l := l) (pre := pre) (x := x)
    obtain ⟨f0, hf0⟩ : ∃ y, pcFrom cs x = y := ⟨_, rfl⟩
    obtain ⟨g0, hg0⟩ : ∃ y, pcTo cs x = y := ⟨_, rfl⟩
    obtain ⟨o0, ho0⟩ : ∃ y, offK ts (pcK first cs x) = y := ⟨_, rfl⟩
    rw [hf0, hg0, ho0] at hhit hmiss
    rw [hf0, hg0] at bX
    rw [hf0] at f1 f2 ⊢
    rw [hg0] at g1 g2 ⊢
    rw [ho0] at o1 o2 ⊢
    have HH := Lib.hid hhit
    have HM := Lib.hid hmiss
    clear hf0 hg0 ho0 hhit hmiss
    have bL := b1.below hB b1l
    have cL := bL.cell 0
    have cX0 := bX.cell 0
    have cX1 := bX.cell 1
    simp at cL cX0 cX1
    have cO := hv.cell
    by_cases hc : f0 ≤ l - o0 ∧ l - o0 < g0
    · obtain ⟨hc1, hc2⟩ := hc
      gi_wp2_with (gi_at_builtin; refine wpListIn_append_own _ rfl _ _ 26 rfl w1.heap.size 3 i0 (.int .i64 0) 1 8 Try.underlying26 hi0 hz0 hz1 hz2 rfl (by decide) _ _ _ rfl (hrow.alloc _) ⟨W.heap.size, 0, none⟩ 1 1 [.int .i64 (l - o0)] rfl rfl (cell_one_new _ _ _) (by simp [Value.oneCell']) (by unfold maxLen; omega) (by omega) (by have := hB.size; simp; omega) ?_; intro v' w9 hown' hgrow _; obtain ⟨g', cap', rfl⟩ := ownsRow_succ hown'; obtain ⟨hv1, hv2, hr2, hk2, hb2⟩ := hv.appended (by decide) hrow hB.size (Nat.le_refl _) hown' hgrow; have hk3 := KpT.appended hv1 hrow (by decide) (by decide) (by decide) (by decide) hgrow hb2; have hcc1 := hv1.cell; have hfc1 := hv1.frozen)
      exact ⟨hk2.from _, hk3, ⟨_, hv2, by rw [HH.out hc1 hc2]; simpa using hr2⟩, hB.trans hb2⟩
    · have hc' : l - o0 < f0 ∨ (f0 ≤ l - o0 ∧ g0 ≤ l - o0) := by omega
      rcases hc' with hc1 | ⟨hc1, hc2⟩
      all_goals
        gi_wp2
        exact ⟨KeepsFrom.refl _ _, KpT.refl _ _, ⟨v, hv, by rw [HM.out hc]; first | exact hrow | exact ⟨hrow, trivial⟩⟩, hB⟩
  case done =>
    rintro D ys W hD rfl ⟨⟨v, hv, hrow, _⟩, hB⟩ hK
    have hc := hv.cell
    gi_wp2
    refine ⟨by simp, .inl ⟨_, _, rfl, run_takeDeferred hK, ?_⟩⟩
    exact ⟨.tuple #[v, .int .i64 0], by simp [results, Try.results12, go_sem], v, rfl, (ownsRow_putObj hrow _ hK rfl).mono hb1.size, hb1.trans ((hB.trans (belowK_b (w := w1) (Nat.le_refl _) W D _ _ (by omega) hK rfl rfl)).mono hb1.size)⟩
  case stop =>
    rintro D c pre W _ _ h _
    exact h.elim
set_option maxRecDepth 100000 in
set_option maxHeartbeats 4000000 in
theorem w_Find_bad (A C : Option Addr) (capT capC : Nat) (ts : List Ty) (first : Int) (cs : List Ch) (l : Int) (w : World) (H : TabAt w A C capT capC ts cs) (h0 : ¬ timedE ts first cs l = 0) :
    Calls Try.prog 12 #[.agg #[.slice A ts.length capT, .int .i64 first, .slice C cs.length capC], .int .i64 l] w
      fun e w' => e = .returned (.tuple #[.slice none 0 0, .int .i64 (timedE ts first cs l)]) ∧ Below w.heap.size w w' := by
  have hbx : Below w.heap.size w ((w.alloc (.cells #[.slice A ts.length capT, .int .i64 first, .slice C cs.length capC] 25)).alloc (.cells #[.int .i64 l] 3)) := (by repeat (first | exact Below.refl _ _ | assumption | apply Below.drew | apply below_drewN | (refine Below.alloc ?_ (by simp; try omega) _) | (refine Below.setCell ?_ (by simp; try omega) _)))
  have HC := Lib.hid (w_check A C capT capC ts first cs l _ (H.below hbx))
  have h2 : (timedE ts first cs l != 0) = true := by rw [bne_iff_ne]; exact h0
  have h3 : (timedE ts first cs l == 0) = false := by rw [beq_eq_false_iff_ne]; exact h0
  clear h0
  go_enter Try.func12, Try.ntmps12
  go_wp2_with fail
  refine HC.out.mono ?_
  rintro e w1 ⟨rfl, hb⟩
  have hb1 := hbx.trans (hb.mono hbx.size)
  clear hb HC
  go_wp2_with fail
  go_ret2
  exact ⟨rfl, hb1⟩
end Go.Proofs.Ytgnodiegippkeaa
