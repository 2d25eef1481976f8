/- Part 42 of the proof of TopWall: no condition; what its declarations say stands at each. -/
import Derived.Test.YthppifcggmdmoaaGreatDoorW41
import Derived.Test.YthppifcggmdmoaaGreatDoorW37
import Derived.Maps.AppendAt
import Derived.Deep.Onto
namespace Go.Proofs.YthppifcggmdmoaaGreatDoor
open Go.RowKit Go.Shelf
set_option linter.unusedVariables false
attribute [local go_sem] Oper.semAt_some
theorem blk_own {β : Type} (B : Nat) (t : TypeId) (f : β → Array Value) : Own (fun s W => Blk W B t (f s)) := fun s X Y row hs hg hrow =>
 hs.grown hg (fun e' => by obtain ⟨o, ho, hc⟩ := hrow B e'; rw [show X.heap[B]? = _ from hs] at ho; cases ho; cases hc)
theorem KpT.appended {W w1 : World} {n₀ B : Nat} {t e : TypeId} {size : Nat} {v v' : Value} {k : Nat} {xs : List Value} {tmp : Obj}
  (hv : Boxed w1 B t v) (hrow : W.ownsRow n₀ e size v k xs) (h1 : t ≠ 37) (h2 : t ≠ 44) (h3 : e ≠ 37) (h4 : e ≠ 44) (hgrow : (W.alloc tmp).grownBy w1 v.ownBlock)
  (hb : Below n₀ W (w1.setCell ⟨B, 0, none⟩ v')) : KpT n₀ W (w1.setCell ⟨B, 0, none⟩ v') := by
 refine ⟨hb, fun g t' cs ht hg => ?_⟩
 have hte : t' ≠ e := by rcases ht with rfl | rfl <;> first | exact h3.symm | exact h4.symm
 have htt : t' ≠ t := by rcases ht with rfl | rfl <;> first | exact h1.symm | exact h2.symm
 have k1 := (hg.alloc tmp).grown hgrow (hg.own_ne hrow hte)
 exact k1.far (a := ⟨B, 0, none⟩) (Blk.ne k1 (show Blk w1 B t #[v] from hv) htt) v'
theorem KpT.stored {W : World} {n₀ B : Nat} {t : TypeId} {v v' : Value} (hv : Boxed W B t v) (h1 : t ≠ 37) (h2 : t ≠ 44) (hB : n₀ ≤ B) : KpT n₀ W (W.setCell ⟨B, 0, none⟩ v') := by
 refine ⟨(Below.refl _ _).setCell (p := ⟨B, 0, none⟩) hB v', fun g t' cs ht hg => ?_⟩
 have htt : t' ≠ t := by rcases ht with rfl | rfl <;> first | exact h1.symm | exact h2.symm
 exact hg.far (a := ⟨B, 0, none⟩) (Blk.ne hg (show Blk W B t #[v] from hv) htt) v'
def fnd (ts : List Ty) (first : Int) (cs : List Ch) (l : Int) (pre : List Nat) : List Int := findL l (pre.map (pcAt ts first cs))
theorem fnd_length (ts : List Ty) (first : Int) (cs : List Ch) (l : Int) (pre : List Nat) : (fnd ts first cs l pre).length ≤ pre.length := by
 have := findL_length l (pre.map (pcAt ts first cs)); rwa [List.length_map] at this
theorem fnd_hit {ts : List Ty} {first : Int} {cs : List Ch} {l : Int} {pre : List Nat} {x : Nat} (h1 : pcFrom cs x ≤ l - offK ts (pcK first cs x)) (h2 : l - offK ts (pcK first cs x) < pcTo cs x) : fnd ts first cs l (pre ++ [x]) = fnd ts first cs l pre ++ [l - offK ts (pcK first cs x)] := by
 unfold fnd; rw [List.map_append]; exact findL_hit (p := pcAt ts first cs x) h1 h2
theorem fnd_miss {ts : List Ty} {first : Int} {cs : List Ch} {l : Int} {pre : List Nat} {x : Nat} (h : ¬ (pcFrom cs x ≤ l - offK ts (pcK first cs x) ∧ l - offK ts (pcK first cs x) < pcTo cs x)) : fnd ts first cs l (pre ++ [x]) = fnd ts first cs l pre := by
 unfold fnd; rw [List.map_append]; exact findL_miss (p := pcAt ts first cs x) h
theorem pc_any {ts : List Ty} {first : Int} {cs : List Ch} (h : TabOk ts first cs) (j : Nat) : (-4611686018427387904 ≤ pcFrom cs j ∧ pcFrom cs j ≤ 1099511627776) ∧ (-1099511627776 ≤ pcTo cs j ∧ pcTo cs j ≤ 4611686018427387903) ∧ (-75600 ≤ offK ts (pcK first cs j) ∧ offK ts (pcK first cs j) ≤ 75600) := by
 refine ⟨?_, pcTo_range h j, ?_⟩
 ·by_cases hj : j ≤ cs.length
  ·exact pcFrom_range h hj
  ·unfold pcFrom
   rw [if_neg (by omega), show cs.getD (j - 1) (0, 0) = (0, 0) by rw [List.getD_eq_getElem?_getD, List.getElem?_eq_none (by omega)]; rfl]; simp
 ·by_cases hj : j ≤ cs.length
  ·have := pcK_range h hj; exact offK_range h this.1 this.2
  ·have e : pcK first cs j = 0 := by
    unfold pcK
    rw [if_neg (by omega), show cs.getD (j - 1) (0, 0) = (0, 0) by rw [List.getD_eq_getElem?_getD, List.getElem?_eq_none (by omega)]; rfl]
   rw [e]; have := h.tpos; exact offK_range h (Int.le_refl _) (by omega)
set_option maxRecDepth 100000 in
set_option maxHeartbeats 4000000 in
theorem w_Find_ok (A C : Option Addr) (capT capC : Nat) (ts : List Ty) (first : Int) (cs : List Ch) (l : Int) (w : World) (H : TabAt w A C capT capC ts cs) (h0 : timedE ts first cs l = 0) :
  Calls Tryz.prog 17 #[.agg #[.slice A ts.length capT, .int .i64 first, .slice C cs.length capC], .int .i64 l] w
   fun e w' => ∃ v, e = .returned (.tuple #[v, .int .i64 0]) ∧ w'.ownsRow w.heap.size 3 1 v (findL l (pcAll ts first cs)).length ((findL l (pcAll ts first cs)).map (Value.int .i64)) ∧ Below w.heap.size w w' := by
 refine (callsIn_wide (n := 5)).1 ?_
 obtain ⟨h1, t1, t2⟩ := timed_parts h0
 have hK := tabOk h1
 have HK := Lib.hid hK
 have hcm := hK.cmax
 obtain ⟨i0, hi0, hz0, hz1, hz2⟩ := info_parts info_int
 have hbx : Below w.heap.size w ((w.alloc (.cells #[.slice A ts.length capT, .int .i64 first, .slice C cs.length capC] 37)).alloc (.cells #[.int .i64 l] 3)) := (by repeat (first | exact Below.refl _ _ | assumption | apply Below.drew | apply below_drewN | (refine Below.alloc ?_ (by simp; try omega) _) | (refine Below.setCell ?_ (by simp; try omega) _)))
 have HC := Lib.hid ((callsIn_wide (n := 4)).2 (w_check A C capT capC ts first cs l _ (H.below hbx)))
 rw [h0] at HC
 have B1 := Lib.hid ((Boxed.new (w.alloc (.cells #[.slice A ts.length capT, .int .i64 first, .slice C cs.length capC] 37)) 3 (.int .i64 l)))
 have T1 := Lib.hid ((Blk.new w #[.slice A ts.length capT, .int .i64 first, .slice C cs.length capC] 37).alloc (.cells #[.int .i64 l] 3))
 rw [World.size_alloc] at B1
 clear h0 h1 hK
 refine callsIn_of_wp_marks Tryz.func17 rfl trivial ?_ rfl
 simp only [Tryz.ntmps17, List.size_toArray, List.length_cons, List.length_nil, Nat.reduceAdd, Nat.reduceSub, Array.replicate_succ, Array.replicate_zero, List.push_toArray, List.append_toArray, List.nil_append, List.cons_append]
 gi_wp2_with (first | (refine ⟨trivial, ?_⟩; gi_at_call 38; refine HC.out.mono ?_; rintro e w1 ⟨rfl, hb⟩; have b1 := (show Blk _ _ _ #[_] from B1.out).step hb; have c1 := T1.out.step hb; have hb1 := hbx.trans (hb.mono hbx.size); clear hb HC; have b1c := b1.cell; have c1c := c1.cell; have b1l := b1.lt; have c1l := c1.lt) | (refine ⟨trivial, ?_⟩; gi_at_call 39; refine (pieces_in _ _ _ _ _).mono ?_; rintro e w' ⟨rfl, rfl⟩))
 have bO := (Boxed.new w1 52 (.slice none 0 0)).alloc (.cells #[.slice A ts.length capT, .int .i64 first, .slice C cs.length capC] 37)
 have bT := Blk.new (w1.alloc (.cells #[.slice none 0 0] 52)) #[.slice A ts.length capT, .int .i64 first, .slice C cs.length capC] 37
 rw [World.size_alloc] at bT
 have hB0 : Below w1.heap.size w1 ((w1.alloc (.cells #[.slice none 0 0] 52)).alloc (.cells #[.slice A ts.length capT, .int .i64 first, .slice C cs.length capC] 37)) := ((Below.refl _ w1).alloc (Nat.le_refl _) _).alloc (by simp) _
 have hsz : ((w1.alloc (.cells #[.slice none 0 0] 52)).alloc (.cells #[.slice A ts.length capT, .int .i64 first, .slice C cs.length capC] 37)).heap.size = w1.heap.size + 2 := by simp
 obtain ⟨W0, hW0⟩ : ∃ W0, ((w1.alloc (.cells #[.slice none 0 0] 52)).alloc (.cells #[.slice A ts.length capT, .int .i64 first, .slice C cs.length capC] 37)) = W0 := ⟨_, rfl⟩
 rw [hW0] at bO bT hB0 hsz ⊢
 clear hW0 b1c c1c T1 B1
 refine wpIn_rangeFunc_ownH rfl (by omega) (gf := 72) (lb := #[.pointer (some ⟨w1.heap.size + 1, 0, none⟩)]) rfl trivial (enters_of Tryz.func72 (by kernel_rfl) rfl)
  (pieces_stops (5 - 1) (by omega) (w1.heap.size + 1) w1.heap.size A C capT capC ts first cs w1 W0 HK.out (H.below hb1) hB0 bT rfl) KpT.trans (KpT.turn (by omega)) (Below.refl _ _) (fun _ => rfl)
  (fun pre W => (∃ v, Boxed W w1.heap.size 52 v ∧ W.ownsRow w1.heap.size 3 1 v (fnd ts first cs l pre).length ((fnd ts first cs l pre).map (Value.int .i64)) ∧ True) ∧ Below w1.heap.size w1 W)
  (fun _ _ _ => False)
  (OwnFrom.and (Own.from (holdsRow_own w1.heap.size w1.heap.size 52 3 1 (fun pre => (fnd ts first cs l pre).length) (fun pre => (fnd ts first cs l pre).map (Value.int .i64)) (fun pre v => True)) _) (ownFrom_below (Nat.le_refl _) (by omega)))
  (fun _ _ _ _ _ hs _ _ => hs)
  ⟨⟨_, bO, World.ownsRow_nil _ _ _ _, trivial⟩, hB0⟩
  (fun x a' W => ∃ Bx, w1.heap.size < Bx ∧ Blk W Bx 47 #[.int .i64 (pcFrom cs x), .int .i64 (pcTo cs x)] ∧ a' = { tmps := #[.agg #[.slice A ts.length capT, .int .i64 first, .slice C cs.length capC], .int .i64 l, .pointer (some ⟨w.heap.size, 0, none⟩), .pointer (some ⟨w.heap.size + 1, 0, none⟩), .slice none 0 0, .int .i64 0, .int .i64 0, .pointer (some ⟨w1.heap.size, 0, none⟩), .pointer (some ⟨Bx, 0, none⟩), .int .i64 (offK ts (pcK first cs x)), undef, .agg #[.slice A ts.length capT, .int .i64 first, .slice C cs.length capC], .int .i64 l, .int .i64 0, .int .i64 0, .bool false, undef, .agg #[.slice A ts.length capT, .int .i64 first, .slice C cs.length capC], .func (.func 72) #[] #[.pointer (some ⟨w1.heap.size + 1, 0, none⟩)], .agg #[.int .i64 (pcFrom cs x), .int .i64 (pcTo cs x)], .int .i64 (offK ts (pcK first cs x)), undef, undef, undef, undef, undef, undef, undef, undef, undef, undef, undef, undef, undef, undef, undef, undef, undef, undef], defers := [] })
  (fun x a' _ X Y row hs hg hr => by obtain ⟨Bx, h1, h2, h3⟩ := hs; exact ⟨Bx, h1, blk_own Bx 47 (fun (_ : Unit) => #[.int .i64 (pcFrom cs x), .int .i64 (pcTo cs x)]) () X Y row h2 hg (fun r e => (hr r e).2), h3⟩)
  ?assign ?body ?done ?stop
 case assign =>
  rintro l' pre x W K ⟨⟨v, bv, hv, _⟩, hB1⟩ hK
  have hvl := bv.lt
  gi_wp2
  exact hK _ _ ((KeepsOthers.alloc _ _).from _) (KpT.below ((Below.refl _ W).alloc (Nat.le_refl _) _) hB1.size) ⟨⟨v, bv.alloc _, hv.alloc _, trivial⟩, hB1.alloc hB1.size _⟩ ⟨W.heap.size, hvl, Blk.new W _ _, rfl⟩
 case body =>
  rintro l' pre x a' W hl ⟨r, hr⟩ ⟨⟨v, hv, hrow, _⟩, hB⟩ ⟨Bx, hBx, bX, rfl⟩ hlt
  have hK := pc_any HK.out x
  obtain ⟨⟨f1, f2⟩, ⟨g1, g2⟩, ⟨o1, o2⟩⟩ := hK
  have hfl := fnd_length ts first cs l pre
  have hhit := fnd_hit (ts := ts) (first := first) (cs := cs) (l := l) (pre := pre) (x := x)
  have hmiss := fnd_miss (ts := ts) (first := first) (cs := cs) (l := l) (pre := pre) (x := x)
  obtain ⟨f0, hf0⟩ : ∃ y, pcFrom cs x = y := ⟨_, rfl⟩
  obtain ⟨g0, hg0⟩ : ∃ y, pcTo cs x = y := ⟨_, rfl⟩
  obtain ⟨o0, ho0⟩ : ∃ y, offK ts (pcK first cs x) = y := ⟨_, rfl⟩
  rw [hf0, hg0, ho0] at hhit hmiss
  rw [hf0, hg0] at bX
  rw [hf0] at f1 f2 ⊢
  rw [hg0] at g1 g2 ⊢
  rw [ho0] at o1 o2 ⊢
  have HH := Lib.hid hhit
  have HM := Lib.hid hmiss
  clear hf0 hg0 ho0 hhit hmiss
  have bL := b1.below hB b1l
  have cL := bL.cell 0
  have cX0 := bX.cell 0
  have cX1 := bX.cell 1
  simp at cL cX0 cX1
  have cO := hv.cell
  by_cases hc : f0 ≤ l - o0 ∧ l - o0 < g0
  ·obtain ⟨hc1, hc2⟩ := hc
   gi_wp2_with (gi_at_builtin; refine wpListIn_append_own _ rfl _ _ 52 rfl w1.heap.size 3 i0 (.int .i64 0) 1 8 Tryz.underlying52 hi0 hz0 hz1 hz2 rfl (by decide) _ _ _ rfl (hrow.alloc _) ⟨W.heap.size, 0, none⟩ 1 1 [.int .i64 (l - o0)] rfl rfl (cell_one_new _ _ _) (by simp [Value.oneCell']) (by unfold maxLen; omega) (by omega) (by have := hB.size; simp; omega) ?_; intro v' w9 hown' hgrow _; obtain ⟨g', cap', rfl⟩ := ownsRow_succ hown'; obtain ⟨hv1, hv2, hr2, hk2, hb2⟩ := hv.appended (by decide) hrow hB.size (Nat.le_refl _) hown' hgrow; have hk3 := KpT.appended hv1 hrow (by decide) (by decide) (by decide) (by decide) hgrow hb2; have hcc1 := hv1.cell; have hfc1 := hv1.frozen)
   exact ⟨hk2.from _, hk3, ⟨_, hv2, by rw [HH.out hc1 hc2]; simpa using hr2⟩, hB.trans hb2⟩
  ·have hc' : l - o0 < f0 ∨ (f0 ≤ l - o0 ∧ g0 ≤ l - o0) := by omega
   rcases hc' with hc1 | ⟨hc1, hc2⟩
   all_goals
    gi_wp2
    exact ⟨KeepsFrom.refl _ _, KpT.refl _ _, ⟨v, hv, by rw [HM.out hc]; first | exact hrow | exact ⟨hrow, trivial⟩⟩, hB⟩
 case done =>
  rintro D ys W hD rfl ⟨⟨v, hv, hrow, _⟩, hB⟩ hK
  have hc := hv.cell
  gi_wp2
  refine ⟨by simp, .inl ⟨_, _, rfl, run_takeDeferred hK, ?_⟩⟩
  exact ⟨.tuple #[v, .int .i64 0], by simp [results, Tryz.results17, go_sem], v, rfl, (ownsRow_putObj hrow _ hK rfl).mono hb1.size, hb1.trans ((hB.trans (belowK_b (w := w1) (Nat.le_refl _) W D _ _ (by omega) hK rfl rfl)).mono hb1.size)⟩
 case stop =>
  rintro D c pre W _ _ h _
  exact h.elim
end Go.Proofs.YthppifcggmdmoaaGreatDoor

namespace Go.Proofs.YthppifcggmdmoaaGreatDoor
set_option linter.unusedVariables false
def dd : Ty → List (Int × Ty) → List (Int × Ty)
 | _, [] => []
 | x, c :: r => if c.2 = x then dd x r else c :: dd c.2 r
def fAt (x : Ty) (l : List (Int × Ty)) (t : Int) : Ty := l.foldl (fun y c => if c.1 ≤ t then c.2 else y) x
theorem fAt_cons (x : Ty) (c : Int × Ty) (r : List (Int × Ty)) (t : Int) : fAt x (c :: r) t = fAt (if c.1 ≤ t then c.2 else x) r t := rfl
theorem fAt_none {x : Ty} {l : List (Int × Ty)} {t : Int} (h : ∀ c ∈ l, t < c.1) : fAt x l t = x := by
 induction l generalizing x with
 | nil => rfl
 | cons c r ih =>
  rw [fAt_cons, if_neg (by have := h c (by simp); omega)]
  exact ih (fun d hd => h d (by simp [hd]))
theorem tabOf_fAt (ts : List Ty) (first : Int) (cs : List Ch) (t : Int) : tabOf ts first cs t = fAt (ts.getD first.toNat tyZero) (cs.map (chTy ts)) t := by
 unfold tabOf tyIx
 induction cs generalizing first with
 | nil => rfl
 | cons c r ih =>
  rw [List.foldl_cons, List.map_cons, fAt_cons, ih]
  congr 1
  unfold chTy
  split <;> rfl
theorem dd_sub : ∀ (x : Ty) (l : List (Int × Ty)), ∀ c ∈ dd x l, c ∈ l
 | _, [], c, h => by simp [dd] at h
 | x, d :: r, c, h => by
  unfold dd at h
  split at h
  ·exact List.mem_cons_of_mem _ (dd_sub x r c h)
  ·rcases List.mem_cons.1 h with rfl | h
   ·simp
   ·exact List.mem_cons_of_mem _ (dd_sub d.2 r c h)
theorem dd_sorted : ∀ (x : Ty) (l : List (Int × Ty)), l.Pairwise (fun a b => a.1 < b.1) → (dd x l).Pairwise (fun a b => a.1 < b.1)
 | _, [], _ => by simp [dd]
 | x, d :: r, h => by
  obtain ⟨h1, h2⟩ := List.pairwise_cons.1 h
  unfold dd
  split
  ·exact dd_sorted x r h2
  ·exact List.pairwise_cons.2 ⟨fun c hc => h1 c (dd_sub _ _ c hc), dd_sorted d.2 r h2⟩
theorem fAt_dd : ∀ (x : Ty) (l : List (Int × Ty)) (t : Int), l.Pairwise (fun a b => a.1 < b.1) → fAt x (dd x l) t = fAt x l t
 | _, [], _, _ => rfl
 | x, c :: r, t, h => by
  obtain ⟨h1, h2⟩ := List.pairwise_cons.1 h
  unfold dd
  split
  ·rename_i e
   rw [fAt_dd x r t h2, fAt_cons, e]; simp
  ·rename_i e
   rw [fAt_cons, fAt_cons]
   by_cases hc : c.1 ≤ t
   ·rw [if_pos hc]; exact fAt_dd c.2 r t h2
   ·rw [if_neg hc, fAt_none (fun d hd => by have := h1 d (dd_sub _ _ d hd); omega), fAt_none (fun d hd => by have := h1 d hd; omega)]
theorem addTy_pre (l : List Ty) (x : Ty) : ∃ e, addTy l x = l ++ e ∧ (addTy l x).getD (numTy l x) tyZero = x := by
 by_cases h : x ∈ l
 ·refine ⟨[], by rw [addTy_old h]; simp, ?_⟩
  rw [addTy_old h]
  have hlt := numTy_lt.2 h
  have : ∀ (l : List Ty), numTy l x < l.length → l.getD (numTy l x) tyZero = x := by
   intro l
   induction l with
   | nil => intro h; simp [numTy] at h
   | cons y r ih =>
    intro h
    unfold numTy at h ⊢
    split
    ·rename_i e; simp [e]
    ·rename_i e
     rw [if_neg e] at h
     simpa using ih (by simpa using h)
  exact this l hlt
 ·exact ⟨[x], addTy_new h, by rw [addTy_new h, numTy_none h]; simp⟩
theorem chTy_pre {ts e : List Ty} {c : Ch} (h : 0 ≤ c.2 ∧ c.2 < ts.length) : chTy (ts ++ e) c = chTy ts c := by
 have : c.2.toNat < ts.length := by omega
 simp [chTy, List.getD, List.getElem?_append, this]
theorem fold_decode (l : List (Int × Ty)) (s : NSt) (hs : ∀ c ∈ s.cs, 0 ≤ c.2 ∧ c.2 < s.ts.length) :
  ∃ e, (l.foldl (fun s c => nStep s c.1 c.2) s).ts = s.ts ++ e ∧
   (l.foldl (fun s c => nStep s c.1 c.2) s).cs.map (chTy (l.foldl (fun s c => nStep s c.1 c.2) s).ts) = s.cs.map (chTy s.ts) ++ dd s.last l := by
 induction l generalizing s with
 | nil => exact ⟨[], by simp, by simp [dd]⟩
 | cons c r ih =>
  rw [List.foldl_cons]
  by_cases e : c.2 = s.last
  ·rw [nStep_same e]
   obtain ⟨x, h1, h2⟩ := ih s hs
   exact ⟨x, h1, by rw [h2, dd, if_pos e]⟩
  ·rw [nStep_other e]
   obtain ⟨x, hx, hg⟩ := addTy_pre s.ts c.2
   have hlen : s.ts.length ≤ (addTy s.ts c.2).length := by rw [hx]; simp
   have hnum : numTy s.ts c.2 < (addTy s.ts c.2).length := by
    by_cases h : c.2 ∈ s.ts
    ·rw [addTy_old h]; exact numTy_lt.2 h
    ·rw [addTy_new h, numTy_none h]; simp
   obtain ⟨y, h1, h2⟩ := ih ⟨addTy s.ts c.2, s.cs ++ [(c.1, (numTy s.ts c.2 : Int))], c.2⟩ (fun d hd => by
    rcases List.mem_append.1 hd with hd | hd
    ·have := hs d hd; simp only; omega
    ·simp only [List.mem_singleton] at hd; subst hd; simp only; omega)
   refine ⟨x ++ y, by rw [h1]; simp only; rw [hx, List.append_assoc], ?_⟩
   rw [h2, dd, if_neg e]
   simp only [List.map_append, List.map_cons, List.map_nil]
   rw [List.append_assoc]
   congr 1
   ·refine List.map_congr_left (fun d hd => ?_)
    rw [hx, chTy_pre (hs d hd)]
   ·simp only [List.singleton_append, List.cons.injEq, and_true]
    unfold chTy
    simp only [Int.toNat_natCast]
    rw [hg]
theorem nBuild_decode (x : Ty) (l : List (Int × Ty)) : (nBuild x l).ts.head? = some x ∧ (nBuild x l).cs.map (chTy (nBuild x l).ts) = dd x l := by
 obtain ⟨e, h1, h2⟩ := fold_decode l (nBegin x) (by simp [nBegin])
 refine ⟨?_, ?_⟩
 ·unfold nBuild; rw [h1]; simp [nBegin]
 ·unfold nBuild; rw [h2]; simp [nBegin]
end Go.Proofs.YthppifcggmdmoaaGreatDoor

