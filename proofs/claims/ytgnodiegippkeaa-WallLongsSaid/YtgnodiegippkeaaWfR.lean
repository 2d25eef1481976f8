/- Walk of the reference's Find. -/
import Derived.Test.YtgnodiegippkeaaSrt
import Derived.Test.YtgnodiegippkeaaWallA
import Derived.Test.YtgnodiegippkeaaKeep2
namespace Go.Proofs.Ytgnodiegippkeaa
open Go.RowKit
set_option linter.unusedVariables false
attribute [local go_sem ↓] Go.wp_at_zero Go.wp_at_succ
def frd (ts : List Ty) (first : Int) (cs : List Ch) (l : Int) (k : Nat) : List Int := (ts.take k).filterMap fun x => if offT ts first cs (l - x.1) = x.1 then some (l - x.1) else none
theorem frd_hit {ts : List Ty} {first : Int} {cs : List Ch} {l : Int} {k : Nat} (h : k < ts.length) (he : offT ts first cs (l - ts[k].1) = ts[k].1) : frd ts first cs l (k + 1) = frd ts first cs l k ++ [l - ts[k].1] := by
  unfold frd; rw [List.take_succ_eq_append_getElem h, List.filterMap_append]; simp [he]
theorem frd_miss {ts : List Ty} {first : Int} {cs : List Ch} {l : Int} {k : Nat} (h : k < ts.length) (he : ¬ offT ts first cs (l - ts[k].1) = ts[k].1) : frd ts first cs l (k + 1) = frd ts first cs l k := by
  unfold frd; rw [List.take_succ_eq_append_getElem h, List.filterMap_append]; simp [he]
theorem frd_length (ts : List Ty) (first : Int) (cs : List Ch) (l : Int) (k : Nat) : (frd ts first cs l k).length ≤ k := by
  unfold frd; refine Nat.le_trans (List.length_filterMap_le _ _) ?_; rw [List.length_take]; omega
theorem frd_all (ts : List Ty) (first : Int) (cs : List Ch) (l : Int) : frd ts first cs l ts.length = findR ts first cs l := by
  unfold frd findR; rw [List.take_length]
theorem findR_length (ts : List Ty) (first : Int) (cs : List Ch) (l : Int) : (findR ts first cs l).length ≤ ts.length := List.length_filterMap_le _ _
theorem Bx.low {g B : Nat} {W W2 : World} {cs : Array Value} (h : Bx g W cs) (hb : Below B W W2) (hg : g < B) : Bx g W2 cs :=
  ⟨fun i => (hb.cell (p := ⟨g, i, none⟩) hg).trans (h.1 i), fun i => (hb.frozen (p := ⟨g, i, none⟩) hg).trans (h.2.1 i), Nat.lt_of_lt_of_le h.2.2 hb.size⟩
/-- a slice of new numbers as a result -/
def IntsPost (L : List Int) (w : World) (e : Ending) (w' : World) : Prop := ∃ v, e = .returned v ∧ w'.ownsRow w.heap.size 3 1 v L.length (L.map (Value.int .i64)) ∧ Below w.heap.size w w'
set_option maxRecDepth 100000 in
set_option maxHeartbeats 4000000 in
theorem r_Find (A C : Option Addr) (capT capC : Nat) (ts : List Ty) (first : Int) (cs : List Ch) (l : Int) (w : World) (H : TabAt w A C capT capC ts cs) (K : TabOk ts first cs) (t1 : -1099511627776 ≤ l) (t2 : l ≤ 1099511627776) :
    Calls Try.prog 16 #[.agg #[.slice A ts.length capT, .int .i64 first, .slice C cs.length capC], .int .i64 l] w (IntsPost (findL l (pcAll ts first cs)) w) := by
  have m1 := H.mT
  have m3 := H.cT
  have k1 := K.tmax
  unfold maxLen at m1
  obtain ⟨i0, hi0, hz0, hz1, hz2⟩ := info_parts info_int
  have hfo := field_off
  have X1 := Lib.hid (Bx.new w #[.slice A ts.length capT, .int .i64 first, .slice C cs.length capC] 25)
  have HB := Lib.hid (show Below w.heap.size w (w.alloc (.cells #[.slice A ts.length capT, .int .i64 first, .slice C cs.length capC] 25)) from (by repeat (first | exact Below.refl _ _ | assumption | apply Below.drew | apply below_drewN | (refine Below.alloc ?_ (by simp; try omega) _) | (refine Below.setCell ?_ (by simp; try omega) _))))
  go_enter Try.func16, Try.ntmps16
  go_wp2_with fail
  revert X1 HB
  generalize w.alloc (.cells #[.slice A ts.length capT, .int .i64 first, .slice C cs.length capC] 25) = W1
  intro X1 HB
  go_loopw [5, 12] (fun v i wr => ∃ k : Nat, k ≤ ts.length ∧ i = .int .i64 k ∧ wr.ownsRow W1.heap.size 3 1 v (frd ts first cs l k).length ((frd ts first cs l k).map (Value.int .i64)) ∧ W1.heap.size ≤ wr.heap.size ∧ Bx w.heap.size wr #[.slice A ts.length capT, .int .i64 first, .slice C cs.length capC] ∧ Below w.heap.size w wr) (fun _ i _ => ts.length - (intOf i).toNat)
  case atStart => exact ⟨0, Nat.zero_le _, rfl, World.ownsRow_nil _ _ _ _, Nat.le_refl _, X1.out, HB.out⟩
  case round =>
    obtain ⟨k, hk, rfl, hO, hzW, hx, hbr⟩ := hrel
    have hxW := X1.out.2.2
    have HO := Lib.hid hO
    have HX := Lib.hid hx
    have HR := Lib.hid hbr
    by_cases hlt : k < ts.length
    · obtain ⟨b, o, rfl, hb', d0, d1, d2⟩ := ty_at (H.below hbr).T hlt
      obtain ⟨o1, o2, _⟩ := K.types _ (List.getElem_mem hlt)
      have hhit := frd_hit (first := first) (cs := cs) (l := l) hlt
      have hmiss := frd_miss (first := first) (cs := cs) (l := l) hlt
      have hfl := frd_length ts first cs l k
      have hTy : ∀ W, (H : Below w.heap.size w W) → True := fun _ _ => trivial
      obtain ⟨x, hxe⟩ : ∃ x : Ty, ts[k] = x := ⟨_, rfl⟩
      rw [hxe] at d0 d1 d2 o1 o2 hhit hmiss
      obtain ⟨y, hye⟩ : ∃ y : Ty, tabOf ts first cs (l - x.1) = y := ⟨_, rfl⟩
      have hye2 : offT ts first cs (l - x.1) = y.1 := by rw [offT, hye]
      rw [hye2] at hhit hmiss
      have HH := Lib.hid hhit
      have HM := Lib.hid hmiss
      have hF1 : ∀ (W : World), ((∀ i, W.cell? ⟨w.heap.size, i, none⟩ = (#[.slice (some ⟨b, o, none⟩) ts.length capT, .int .i64 first, .slice C cs.length capC] : Array Value)[i]?) ∧ (∀ i, W.cell? ⟨wr.heap.size, i, none⟩ = (#[.int .i64 x.1, .bool x.2.1, .string x.2.2] : Array Value)[i]?) ∧ w.heap.size < W.heap.size ∧ wr.heap.size < W.heap.size ∧ Below w.heap.size w W) →
          Calls Try.prog 42 #[.agg #[.slice (some ⟨b, o, none⟩) ts.length capT, .int .i64 first, .slice C cs.length capC], .int .i64 (l - x.1)] W (fun e w' => e = .returned (.agg #[.int .i64 y.1, .bool y.2.1, .string y.2.2]) ∧ Below W.heap.size W w') := fun W hW => by
        have := r_TableOf (some ⟨b, o, none⟩) C capT capC ts first cs (l - x.1) W (H.below hW.2.2.2.2) K
        rw [hye] at this; exact this
      have HF1 := Lib.hid hF1
      have hz := hbr.size
      have hx1 := hx.2.2
      have hS : (∀ i, (wr.alloc (.cells #[.int .i64 x.1, .bool x.2.1, .string x.2.2] 77)).drew.cell? ⟨w.heap.size, i, none⟩ = (#[.slice (some ⟨b, o, none⟩) ts.length capT, .int .i64 first, .slice C cs.length capC] : Array Value)[i]?) ∧ (∀ i, (wr.alloc (.cells #[.int .i64 x.1, .bool x.2.1, .string x.2.2] 77)).drew.cell? ⟨wr.heap.size, i, none⟩ = (#[.int .i64 x.1, .bool x.2.1, .string x.2.2] : Array Value)[i]?) ∧ w.heap.size < (wr.alloc (.cells #[.int .i64 x.1, .bool x.2.1, .string x.2.2] 77)).drew.heap.size ∧ wr.heap.size < (wr.alloc (.cells #[.int .i64 x.1, .bool x.2.1, .string x.2.2] 77)).drew.heap.size ∧ Below w.heap.size w (wr.alloc (.cells #[.int .i64 x.1, .bool x.2.1, .string x.2.2] 77)).drew :=
        ⟨(hx.alloc _).1, (Blk.new wr _ _).cell, by have := (hx.alloc (.cells #[.int .i64 x.1, .bool x.2.1, .string x.2.2] 77)).2.2; simpa using this, by simp, (hbr.alloc hz _).drew⟩
      have HOa := Lib.hid (own_step (W2 := (wr.alloc (.cells #[.int .i64 x.1, .bool x.2.1, .string x.2.2] 77)).drew) hO ((Below.refl _ _).alloc (Nat.le_refl _) _).drew)
      have hc0 := hx.1
      clear hF1 hTy hxe hye hye2 hO hhit hmiss hx hbr
      have HS := Lib.hid hS
      clear hS
      go_wp2_with fail
      have hS := HS.out
      by_cases he : y.1 = x.1
      · have heq : (y.1 == x.1) = true := beq_iff_eq.2 he
        have HE := Lib.hid (HH.out he)
        clear he
        go_region_held3 (fun W' => (∀ i, W'.cell? ⟨w.heap.size, i, none⟩ = (#[.slice (some ⟨b, o, none⟩) ts.length capT, .int .i64 first, .slice C cs.length capC] : Array Value)[i]?) ∧ (∀ i, W'.cell? ⟨wr.heap.size, i, none⟩ = (#[.int .i64 x.1, .bool x.2.1, .string x.2.2] : Array Value)[i]?) ∧ w.heap.size < W'.heap.size ∧ wr.heap.size < W'.heap.size ∧ Below w.heap.size w W')
          (first | (with_reducible exact hS) | (with_reducible exact hS8) | (with_reducible assumption))
          (first | (go_at_call 42; refine (HF1.out _ (by assumption)).mono ?_; rintro e w8 ⟨rfl, hb8⟩; have hS8 := keepS2 (by assumption) hb8))
        all_goals
          rename_i hX
          clear hX
          have HO8 := Lib.hid (own_step HOa.out hb8)
          have hB8 := hS8.2.2.2.2
          have hb8' : w.heap.size ≤ w8.heap.size := hB8.size
          have hb9' : W1.heap.size ≤ w8.heap.size := by have := hb8.size; simp at this; omega
          have HX8 := Lib.hid (show Bx w.heap.size w8 _ from ⟨hS8.1, fun i => by rw [hb8.frozen (p := ⟨w.heap.size, i, none⟩) hS.2.2.1]; exact (HX.out.alloc (.cells #[.int .i64 x.1, .bool x.2.1, .string x.2.2] 77)).2.1 i, hS8.2.2.1⟩)
          have HB8 := Lib.hid hB8
          clear hS hS8 hb8 hB8
          go_wp2_with (at_builtin; refine wpList_append_lies _ rfl _ _ _ rfl W1.heap.size 3 i0 _ 1 8 Try.underlying26 hi0 hz0 hz1 hz2 rfl (by omega) u5 (frd ts first cs l k).length _ rfl (HO8.out.alloc _) ⟨w8.heap.size, 0, none⟩ 1 1 (inCells (l - x.1)) rfl rfl (World.news_of_block (cs := (inCells (l - x.1)).toArray) (t := 3) (fr := (0, 0)) (Blk.new' _ _ _ rfl)) (by simp [Value.oneCell', inCells]) (by omega) (by unfold maxLen; omega) (by omega) (by simp; omega) (w8.heap.size + 1) (by simp) ?_; intro gg cap3 w9 hown1 hgrow hat hlt6)
          have hbig : Below W1.heap.size w8 w9 := ((Below.refl _ _).alloc hb9' _).trans (below_app (by simp; omega) (HO8.out.alloc _) hgrow)
          exact ⟨⟨k + 1, by omega, by go_num, by rw [HE.out, List.length_append, List.map_append]; exact hown1, Nat.le_trans hb9' hbig.size, Bx.low HX8.out hbig hxW, HB8.out.trans (hbig.mono (by omega))⟩, by simp [intOf]; omega⟩
      · have heq : (y.1 == x.1) = false := beq_eq_false_iff_ne.2 he
        have HE := Lib.hid (HM.out he)
        clear he
        go_region_held3 (fun W' => (∀ i, W'.cell? ⟨w.heap.size, i, none⟩ = (#[.slice (some ⟨b, o, none⟩) ts.length capT, .int .i64 first, .slice C cs.length capC] : Array Value)[i]?) ∧ (∀ i, W'.cell? ⟨wr.heap.size, i, none⟩ = (#[.int .i64 x.1, .bool x.2.1, .string x.2.2] : Array Value)[i]?) ∧ w.heap.size < W'.heap.size ∧ wr.heap.size < W'.heap.size ∧ Below w.heap.size w W')
          (first | (with_reducible exact hS) | (with_reducible exact hS8) | (with_reducible assumption))
          (first | (go_at_call 42; refine (HF1.out _ (by assumption)).mono ?_; rintro e w8 ⟨rfl, hb8⟩; have hS8 := keepS2 (by assumption) hb8))
        all_goals
          rename_i hX
          clear hX
          have HO8 := Lib.hid (own_step HOa.out hb8)
          have hB8 := hS8.2.2.2.2
          have hb8' : w.heap.size ≤ w8.heap.size := hB8.size
          have hb9' : W1.heap.size ≤ w8.heap.size := by have := hb8.size; simp at this; omega
          have HX8 := Lib.hid (show Bx w.heap.size w8 _ from ⟨hS8.1, fun i => by rw [hb8.frozen (p := ⟨w.heap.size, i, none⟩) hS.2.2.1]; exact (HX.out.alloc (.cells #[.int .i64 x.1, .bool x.2.1, .string x.2.2] 77)).2.1 i, hS8.2.2.1⟩)
          have HB8 := Lib.hid hB8
          clear hS hS8 hb8 hB8
          go_wp2_with fail
          exact ⟨⟨k + 1, by omega, by go_num, by rw [HE.out]; exact HO8.out, hb9', HX8.out, HB8.out⟩, by simp [intOf]; omega⟩
    · obtain rfl : k = ts.length := by omega
      rw [frd_all] at HO
      obtain ⟨A2, cap2, rfl, g1, g2, hA2⟩ := own_in HO.out
      have hle := findR_length ts first cs l
      have HF := Lib.hid (r_sorted A2 cap2 (findR ts first cs l) wr hA2 (by omega) g1 g2)
      clear hO hx hA2
      go_wp2_with fail
      refine HF.out.mono ?_
      rintro e w2 ⟨v, O, rfl, hOO, hr, hm, hb⟩
      have HLaw := Lib.hid (find_law K t1 t2 hr hm)
      clear hr hm
      go_wp2_with fail
      go_ret
      exact ⟨v, rfl, by rw [HLaw.out]; exact hOO.mono hbr.size, hbr.trans (hb.mono hbr.size)⟩
end Go.Proofs.Ytgnodiegippkeaa
