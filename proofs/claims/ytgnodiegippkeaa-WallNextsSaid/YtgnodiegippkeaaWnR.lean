/- Walk of the reference's Next. -/
import Derived.Test.YtgnodiegippkeaaWnP
import Derived.Test.YtgnodiegippkeaaWfR
import Derived.Test.YtgnodiegippkeaaFloor
import Derived.Deep.RegionWith
namespace Go.Proofs.Ytgnodiegippkeaa
open Go.RowKit
set_option linter.unusedVariables false
set_option linter.unusedSimpArgs false
attribute [local go_sem ↓] Go.wp_at_zero Go.wp_at_succ
set_option maxRecDepth 100000 in
set_option maxHeartbeats 8000000 in
theorem r_Next (A C : Option Addr) (capT capC : Nat) (ts : List Ty) (first : Int) (cs : List Ch) (after second r : Int) (w : World) (H : TabAt w A C capT capC ts cs) (K : TabOk ts first cs) (t1 : -1099511627776 ≤ after) (t2 : after ≤ 1099511627776) (s1 : 0 ≤ second) (s2 : second < 86400) (hr : NxLeast ts first cs after second r) :
    Calls Try.prog 25 #[.agg #[.slice A ts.length capT, .int .i64 first, .slice C cs.length capC], .int .i64 after, .int .i64 second] w fun e w' => e = .returned (.int .i64 r) ∧ Below w.heap.size w w' := by
  have m1 := H.mT
  have m3 := H.cT
  have k1 := K.tmax
  unfold maxLen at m1
  have hfo := field_off
  have HRL := Lib.hid hr
  have r1 := hr.gt
  have r2 := hr.hi
  clear hr
  have X1 := Lib.hid (Bx.new w #[.slice A ts.length capT, .int .i64 first, .slice C cs.length capC] 25)
  have HB := Lib.hid (show Below w.heap.size w (w.alloc (.cells #[.slice A ts.length capT, .int .i64 first, .slice C cs.length capC] 25)) from (by repeat (first | exact Below.refl _ _ | assumption | apply Below.drew | apply below_drewN | (refine Below.alloc ?_ (by simp; try omega) _) | (refine Below.setCell ?_ (by simp; try omega) _))))
  go_enter Try.func25, Try.ntmps25
  go_wp2_with fail
  revert X1 HB
  generalize w.alloc (.cells #[.slice A ts.length capT, .int .i64 first, .slice C cs.length capC] 25) = W1
  intro X1 HB
  go_loopw [7] (fun v wr => ∃ d : Nat, v = .int .i64 d ∧ after + 1 + 86400 * (d : Int) ≤ r ∧ Bx w.heap.size wr #[.slice A ts.length capT, .int .i64 first, .slice C cs.length capC] ∧ Below w.heap.size w wr) (fun v _ => (r - (after + 1 + 86400 * intOf v)).toNat)
  case atStart => exact ⟨0, rfl, by simp; omega, X1.out, HB.out⟩
  case round =>
    obtain ⟨d, rfl, hd, hx, hbr⟩ := hrel
    have hd2 : (d : Int) ≤ 30000000 := by omega
    obtain ⟨t0, ht0⟩ : ∃ t0, after + 1 + 86400 * (d : Int) = t0 := ⟨_, rfl⟩
    have ht1 : -1099511627775 ≤ t0 ∧ t0 ≤ 1099511714200 := by omega
    have ht2 : after < t0 := by omega
    rw [ht0] at hd
    obtain ⟨ht3, ht4⟩ := ht1
    have hcs := hx.1
    have HX0 := Lib.hid hx
    have HB0 := Lib.hid hbr
    clear hx hbr
    have HT0 := Lib.hid ht0
    clear ht0
    go_wp2_with fail
    go_loopw [8, 9, 18] (fun bv fv i wr => ∃ k : Nat, k ≤ ts.length ∧ i = .int .i64 k ∧ bv = .int .i64 ((nxB ts first cs t0 second k).getD 0) ∧ fv = .bool (nxB ts first cs t0 second k).isSome ∧ Bx w.heap.size wr #[.slice A ts.length capT, .int .i64 first, .slice C cs.length capC] ∧ Below w.heap.size w wr) (fun _ _ i _ => ts.length - (intOf i).toNat)
    case atStart => exact ⟨0, Nat.zero_le _, rfl, rfl, rfl, HX0.out, HB0.out⟩
    case round =>
      obtain ⟨k, hk, rfl, rfl, rfl, hx, hbr⟩ := hrel
      have HX := Lib.hid hx
      have HR := Lib.hid hbr
      by_cases hlt : k < ts.length
      · obtain ⟨b, o, rfl, hb', d0, d1, d2⟩ := ty_at (H.below hbr).T hlt
        obtain ⟨o1, o2, _⟩ := K.types _ (List.getElem_mem hlt)
        have hsucc := nxB_succ first cs t0 second hlt
        obtain ⟨acc, hacc⟩ : ∃ acc, nxB ts first cs t0 second k = acc := ⟨_, rfl⟩
        rw [hacc] at hsucc ⊢
        obtain ⟨x, hxe⟩ : ∃ x : Ty, ts[k] = x := ⟨_, rfl⟩
        rw [hxe] at d0 d1 d2 o1 o2 hsucc
        obtain ⟨c, hcc⟩ : ∃ c, t0 + (second - t0 - x.1) % 86400 = c := ⟨_, rfl⟩
        have hcc2 : nxC t0 second x = c := hcc
        rw [hcc2] at hsucc
        have hc1 : t0 ≤ c ∧ c < t0 + 86400 := by omega
        obtain ⟨hc1, hc2⟩ := hc1
        obtain ⟨y, hye⟩ : ∃ y : Ty, tabOf ts first cs c = y := ⟨_, rfl⟩
        have hye2 : offT ts first cs c = y.1 := by rw [offT, hye]
        rw [hye2] at hsucc
        have hF1 : ∀ (W : World), ((∀ i, W.cell? ⟨w.heap.size, i, none⟩ = (#[.slice (some ⟨b, o, none⟩) ts.length capT, .int .i64 first, .slice C cs.length capC] : Array Value)[i]?) ∧ (∀ i, W.cell? ⟨wr.heap.size, i, none⟩ = (#[.int .i64 x.1, .bool x.2.1, .string x.2.2] : Array Value)[i]?) ∧ w.heap.size < W.heap.size ∧ wr.heap.size < W.heap.size ∧ Below w.heap.size w W) →
            Calls Try.prog 42 #[.agg #[.slice (some ⟨b, o, none⟩) ts.length capT, .int .i64 first, .slice C cs.length capC], .int .i64 c] W (fun e w' => e = .returned (.agg #[.int .i64 y.1, .bool y.2.1, .string y.2.2]) ∧ Below W.heap.size W w') := fun W hW => by
          have := r_TableOf (some ⟨b, o, none⟩) C capT capC ts first cs c W (H.below hW.2.2.2.2) K
          rw [hye] at this; exact this
        have HF1 := Lib.hid hF1
        have hz := hbr.size
        have hS : (∀ i, (wr.alloc (.cells #[.int .i64 x.1, .bool x.2.1, .string x.2.2] 77)).drew.cell? ⟨w.heap.size, i, none⟩ = (#[.slice (some ⟨b, o, none⟩) ts.length capT, .int .i64 first, .slice C cs.length capC] : Array Value)[i]?) ∧ (∀ i, (wr.alloc (.cells #[.int .i64 x.1, .bool x.2.1, .string x.2.2] 77)).drew.cell? ⟨wr.heap.size, i, none⟩ = (#[.int .i64 x.1, .bool x.2.1, .string x.2.2] : Array Value)[i]?) ∧ w.heap.size < (wr.alloc (.cells #[.int .i64 x.1, .bool x.2.1, .string x.2.2] 77)).drew.heap.size ∧ wr.heap.size < (wr.alloc (.cells #[.int .i64 x.1, .bool x.2.1, .string x.2.2] 77)).drew.heap.size ∧ Below w.heap.size w (wr.alloc (.cells #[.int .i64 x.1, .bool x.2.1, .string x.2.2] 77)).drew :=
          ⟨(hx.alloc _).1, (Blk.new wr _ _).cell, by have := (hx.alloc (.cells #[.int .i64 x.1, .bool x.2.1, .string x.2.2] 77)).2.2; simpa using this, by simp, (hbr.alloc hz _).drew⟩
        have hc0 := hx.1
        have HSucc := Lib.hid hsucc
        have HS := Lib.hid hS
        clear hF1 hxe hye hye2 hx hbr hS hsucc hcc2 hacc
        have ht0' := HT0.out
        by_cases hv : y.1 = x.1
        · have heq : (y.1 == x.1) = true := beq_iff_eq.2 hv
          cases acc with
          | none =>
            have HE := Lib.hid (HSucc.out.trans (if_pos ⟨hv, fun b hb => by cases hb⟩))
            clear hv
            try simp only [Option.getD_none, Option.isSome_none]
            go_wp2_with (first | (go_at_call 53; refine (fl_Rest _ (by omega) (by omega) _).mono ?_; rintro e w' ⟨rfl, rfl⟩))
            have hS := HS.out
            refine wp_region_noPanic ?_
            refine wp_region_held_drew (S := fun W' : World => (∀ i, W'.cell? ⟨w.heap.size, i, none⟩ = (#[.slice (some ⟨b, o, none⟩) ts.length capT, .int .i64 first, .slice C cs.length capC] : Array Value)[i]?) ∧ (∀ i, W'.cell? ⟨wr.heap.size, i, none⟩ = (#[.int .i64 x.1, .bool x.2.1, .string x.2.2] : Array Value)[i]?) ∧ w.heap.size < W'.heap.size ∧ wr.heap.size < W'.heap.size ∧ Below w.heap.size w W') (by kernel_rfl) hS (fun hHeld => ?_)
            refine wpAnyH_take (i := 0) (v := ?_) rfl (by kernel_rfl) (by kernel_rfl) (by kernel_rfl) (fun _ _ _ h => h) (Or.inl ⟨by rfl, ?_⟩) (by assumption) ?_
            rotate_left
            · intro wq hSw
              try dsimp only at hSw
              go_simp
              try with_reducible rfl
            try simp only [Act.put, List.setIfInBounds_toArray, List.set_cons_zero, List.set_cons_succ]
            refine wpAnyH_take (i := 1) (v := ?_) rfl (by kernel_rfl) (by kernel_rfl) (by kernel_rfl) (fun _ _ _ h => h) (Or.inl ⟨by rfl, ?_⟩) (by assumption) ?_
            rotate_left
            · intro wq hSw
              try dsimp only at hSw
              go_simp
              try with_reducible rfl
            try simp only [Act.put, List.setIfInBounds_toArray, List.set_cons_zero, List.set_cons_succ]
            refine wpAnyH_take (i := 4) (v := ?_) rfl (by kernel_rfl) (by kernel_rfl) (by kernel_rfl) (fun _ _ _ h => h) (Or.inl ⟨by rfl, ?_⟩) (by assumption) ?_
            rotate_left
            · intro wq hSw
              try dsimp only at hSw
              go_simp
              try with_reducible rfl
            try simp only [Act.put, List.setIfInBounds_toArray, List.set_cons_zero, List.set_cons_succ]
            refine wpAnyH_take (i := 5) (v := ?_) rfl (by kernel_rfl) (by kernel_rfl) (by kernel_rfl) (fun _ _ _ h => h) (Or.inl ⟨by rfl, ?_⟩) (by assumption) ?_
            rotate_left
            · intro wq hSw
              try dsimp only at hSw
              go_simp
              try with_reducible rfl
            try simp only [Act.put, List.setIfInBounds_toArray, List.set_cons_zero, List.set_cons_succ]
            refine wpAnyH_ready (rs := [2]) (by kernel_rfl) (by simp) ?_
            refine AllReadyH.cons rfl (fun K hK => ?_) AllReadyH.nil
            go_simp
            go_at_call 42
            refine (HF1.out _ hHeld).mono ?_
            rintro e w8 ⟨rfl, hb8⟩
            have hS8 := keepS2 hHeld hb8
            try go_wp2_with fail
            refine hK.out _ _ hS8 (fun hHeld => ?_)
            clear hK K
            try simp only [Act.put, List.setIfInBounds_toArray, List.set_cons_zero, List.set_cons_succ]
            refine wpAnyH_take (i := 3) (v := ?_) rfl (by kernel_rfl) (by kernel_rfl) (by kernel_rfl) (fun _ _ _ h => h) (Or.inl ⟨by rfl, ?_⟩) (by assumption) ?_
            rotate_left
            · intro wq hSw
              try dsimp only at hSw
              go_simp
              try with_reducible rfl
            try simp only [Act.put, List.getElem_toArray, List.getElem_cons_succ, List.getElem_cons_zero, List.setIfInBounds_toArray, List.set_cons_zero, List.set_cons_succ]
            refine wpAnyH_take (i := 6) (v := ?_) rfl (by kernel_rfl) (by kernel_rfl) (by kernel_rfl) (fun _ _ _ h => h) (Or.inl ⟨by rfl, ?_⟩) (by assumption) ?_
            rotate_left
            · intro wq hSw
              try dsimp only at hSw
              go_simp
              try with_reducible rfl
            try simp only [Act.put, List.getElem_toArray, List.getElem_cons_succ, List.getElem_cons_zero, List.setIfInBounds_toArray, List.set_cons_zero, List.set_cons_succ]
            refine wpAnyH_take (i := 7) (v := ?_) rfl (by kernel_rfl) (by kernel_rfl) (by kernel_rfl) (fun _ _ _ h => h) (Or.inl ⟨by rfl, ?_⟩) (by assumption) ?_
            rotate_left
            · intro wq hSw
              try dsimp only at hSw
              go_simp
              try with_reducible rfl
            try simp only [Act.put, List.getElem_toArray, List.getElem_cons_succ, List.getElem_cons_zero, List.setIfInBounds_toArray, List.set_cons_zero, List.set_cons_succ]
            refine wpAnyH_take (i := 8) (v := ?_) rfl (by kernel_rfl) (by kernel_rfl) (by kernel_rfl) (fun _ _ _ h => h) (Or.inl ⟨by rfl, ?_⟩) (by assumption) ?_
            rotate_left
            · intro wq hSw
              try dsimp only at hSw
              go_simp
              try with_reducible rfl
            try simp only [Act.put, List.getElem_toArray, List.getElem_cons_succ, List.getElem_cons_zero, List.setIfInBounds_toArray, List.set_cons_zero, List.set_cons_succ]
            refine wpAnyH_take (i := 9) (v := ?_) rfl (by kernel_rfl) (by kernel_rfl) (by kernel_rfl) (fun _ _ _ h => h) (Or.inl ⟨by rfl, ?_⟩) (by assumption) ?_
            rotate_left
            · intro wq hSw
              try dsimp only at hSw
              go_simp
              try with_reducible rfl
            try simp only [Act.put, List.getElem_toArray, List.getElem_cons_succ, List.getElem_cons_zero, List.setIfInBounds_toArray, List.set_cons_zero, List.set_cons_succ]
            refine wpAnyH_take (i := 10) (v := ?_) rfl (by kernel_rfl) (by kernel_rfl) (by kernel_rfl) (fun _ _ _ h => h) (Or.inl ⟨by rfl, ?_⟩) (by assumption) ?_
            rotate_left
            · intro wq hSw
              try dsimp only at hSw
              go_simp
              try with_reducible rfl
            try simp only [Act.put, List.getElem_toArray, List.getElem_cons_succ, List.getElem_cons_zero, List.setIfInBounds_toArray, List.set_cons_zero, List.set_cons_succ]
            refine wpAnyH_take (i := 11) (v := undef) rfl (by kernel_rfl) (by kernel_rfl) (by kernel_rfl) (fun _ _ _ h => h) (Or.inr ⟨by kernel_rfl, rfl⟩) (by assumption) ?_
            try simp only [Act.put, List.getElem_toArray, List.getElem_cons_succ, List.getElem_cons_zero, List.setIfInBounds_toArray, List.set_cons_zero, List.set_cons_succ]
            refine wpAnyH_take (i := 12) (v := undef) rfl (by kernel_rfl) (by kernel_rfl) (by kernel_rfl) (fun _ _ _ h => h) (Or.inr ⟨by kernel_rfl, rfl⟩) (by assumption) ?_
            try simp only [Act.put, List.getElem_toArray, List.getElem_cons_succ, List.getElem_cons_zero, List.setIfInBounds_toArray, List.set_cons_zero, List.set_cons_succ]
            refine wpAnyH_take (i := 13) (v := undef) rfl (by kernel_rfl) (by kernel_rfl) (by kernel_rfl) (fun _ _ _ h => h) (Or.inr ⟨by kernel_rfl, rfl⟩) (by assumption) ?_
            try simp only [Act.put, List.getElem_toArray, List.getElem_cons_succ, List.getElem_cons_zero, List.setIfInBounds_toArray, List.set_cons_zero, List.set_cons_succ]
            refine wpAnyH_take (i := 14) (v := .bool true) rfl (by kernel_rfl) (by kernel_rfl) (by kernel_rfl) (fun _ _ _ h => h) (Or.inl ⟨by kernel_rfl, ?_⟩) (by assumption) ?_
            · intro wq hSw
              try dsimp only at hSw
              go_simp
              try with_reducible rfl
            try simp only [Act.put, List.getElem_toArray, List.getElem_cons_succ, List.getElem_cons_zero, List.setIfInBounds_toArray, List.set_cons_zero, List.set_cons_succ]
            refine wpAnyH_take (i := 15) (v := .bool true) rfl (by kernel_rfl) (by kernel_rfl) (by kernel_rfl) (fun _ _ _ h => h) (Or.inl ⟨by kernel_rfl, ?_⟩) (by assumption) ?_
            · intro wq hSw
              try dsimp only at hSw
              go_simp
              try with_reducible rfl
            try simp only [Act.put, List.getElem_toArray, List.getElem_cons_succ, List.getElem_cons_zero, List.setIfInBounds_toArray, List.set_cons_zero, List.set_cons_succ]
            refine wpAnyH_done (by kernel_rfl) ?_ _
            refine NoPanic.normal ?_
            all_goals
              have HX8 := Lib.hid (show Bx w.heap.size w8 _ from ⟨hS8.1, fun i => by rw [hb8.frozen (p := ⟨w.heap.size, i, none⟩) hS.2.2.1]; exact (HX.out.alloc (.cells #[.int .i64 x.1, .bool x.2.1, .string x.2.2] 77)).2.1 i, hS8.2.2.1⟩)
              have HB8 := Lib.hid hS8.2.2.2.2
              clear hS hS8 hb8 hHeld
              go_wp2_with fail
              exact ⟨⟨k + 1, by omega, by go_num, by rw [HE.out]; rfl, by rw [HE.out]; rfl, HX8.out, HB8.out⟩, by simp [intOf]; omega⟩
          | some bb =>
            by_cases hlb : c < bb
            · have HE := Lib.hid (HSucc.out.trans (if_pos ⟨hv, fun b hb => by injection hb with hb; omega⟩))
              have hdl : decide (c < bb) = true := decide_eq_true hlb
              clear hv
              try simp only [Option.getD_some, Option.isSome_some]
              go_wp2_with (first | (go_at_call 53; refine (fl_Rest _ (by omega) (by omega) _).mono ?_; rintro e w' ⟨rfl, rfl⟩))
              have hS := HS.out
              go_region_held3 (fun W' => (∀ i, W'.cell? ⟨w.heap.size, i, none⟩ = (#[.slice (some ⟨b, o, none⟩) ts.length capT, .int .i64 first, .slice C cs.length capC] : Array Value)[i]?) ∧ (∀ i, W'.cell? ⟨wr.heap.size, i, none⟩ = (#[.int .i64 x.1, .bool x.2.1, .string x.2.2] : Array Value)[i]?) ∧ w.heap.size < W'.heap.size ∧ wr.heap.size < W'.heap.size ∧ Below w.heap.size w W')
                (first | (with_reducible exact hS) | (with_reducible exact hS8) | (with_reducible assumption))
                (first | (go_at_call 42; refine (HF1.out _ (by assumption)).mono ?_; rintro e w8 ⟨rfl, hb8⟩; have hS8 := keepS2 (by assumption) hb8))
              all_goals
                rename_i hX
                clear hX
                have HX8 := Lib.hid (show Bx w.heap.size w8 _ from ⟨hS8.1, fun i => by rw [hb8.frozen (p := ⟨w.heap.size, i, none⟩) hS.2.2.1]; exact (HX.out.alloc (.cells #[.int .i64 x.1, .bool x.2.1, .string x.2.2] 77)).2.1 i, hS8.2.2.1⟩)
                have HB8 := Lib.hid hS8.2.2.2.2
                clear hS hS8 hb8
                go_wp2_with fail
                exact ⟨⟨k + 1, by omega, by go_num, by rw [HE.out]; rfl, by rw [HE.out]; rfl, HX8.out, HB8.out⟩, by simp [intOf]; omega⟩
            · have HE := Lib.hid (HSucc.out.trans (if_neg (fun h => hlb (h.2 bb rfl))))
              have hdl : decide (c < bb) = false := decide_eq_false hlb
              clear hv
              try simp only [Option.getD_some, Option.isSome_some]
              go_wp2_with (first | (go_at_call 53; refine (fl_Rest _ (by omega) (by omega) _).mono ?_; rintro e w' ⟨rfl, rfl⟩))
              have hS := HS.out
              go_region_held3 (fun W' => (∀ i, W'.cell? ⟨w.heap.size, i, none⟩ = (#[.slice (some ⟨b, o, none⟩) ts.length capT, .int .i64 first, .slice C cs.length capC] : Array Value)[i]?) ∧ (∀ i, W'.cell? ⟨wr.heap.size, i, none⟩ = (#[.int .i64 x.1, .bool x.2.1, .string x.2.2] : Array Value)[i]?) ∧ w.heap.size < W'.heap.size ∧ wr.heap.size < W'.heap.size ∧ Below w.heap.size w W')
                (first | (with_reducible exact hS) | (with_reducible exact hS8) | (with_reducible assumption))
                (first | (go_at_call 42; refine (HF1.out _ (by assumption)).mono ?_; rintro e w8 ⟨rfl, hb8⟩; have hS8 := keepS2 (by assumption) hb8))
              all_goals
                rename_i hX
                clear hX
                have HX8 := Lib.hid (show Bx w.heap.size w8 _ from ⟨hS8.1, fun i => by rw [hb8.frozen (p := ⟨w.heap.size, i, none⟩) hS.2.2.1]; exact (HX.out.alloc (.cells #[.int .i64 x.1, .bool x.2.1, .string x.2.2] 77)).2.1 i, hS8.2.2.1⟩)
                have HB8 := Lib.hid hS8.2.2.2.2
                clear hS hS8 hb8
                go_wp2_with fail
                exact ⟨⟨k + 1, by omega, by go_num, by rw [HE.out]; rfl, by rw [HE.out]; rfl, HX8.out, HB8.out⟩, by simp [intOf]; omega⟩
        · have heq : (y.1 == x.1) = false := beq_eq_false_iff_ne.2 hv
          have HE := Lib.hid (HSucc.out.trans (if_neg (fun h => hv h.1)))
          clear hv
          go_wp2_with (first | (go_at_call 53; refine (fl_Rest _ (by omega) (by omega) _).mono ?_; rintro e w' ⟨rfl, rfl⟩))
          have hS := HS.out
          refine wp_region_noPanic ?_
          refine wp_region_held_drew (S := fun W' : World => (∀ i, W'.cell? ⟨w.heap.size, i, none⟩ = (#[.slice (some ⟨b, o, none⟩) ts.length capT, .int .i64 first, .slice C cs.length capC] : Array Value)[i]?) ∧ (∀ i, W'.cell? ⟨wr.heap.size, i, none⟩ = (#[.int .i64 x.1, .bool x.2.1, .string x.2.2] : Array Value)[i]?) ∧ w.heap.size < W'.heap.size ∧ wr.heap.size < W'.heap.size ∧ Below w.heap.size w W') (by kernel_rfl) hS (fun hHeld => ?_)
          refine wpAnyH_take (i := 0) (v := ?_) rfl (by kernel_rfl) (by kernel_rfl) (by kernel_rfl) (fun _ _ _ h => h) (Or.inl ⟨by rfl, ?_⟩) (by assumption) ?_
          rotate_left
          · intro wq hSw
            try dsimp only at hSw
            go_simp
            try with_reducible rfl
          try simp only [Act.put, List.setIfInBounds_toArray, List.set_cons_zero, List.set_cons_succ]
          refine wpAnyH_take (i := 1) (v := ?_) rfl (by kernel_rfl) (by kernel_rfl) (by kernel_rfl) (fun _ _ _ h => h) (Or.inl ⟨by rfl, ?_⟩) (by assumption) ?_
          rotate_left
          · intro wq hSw
            try dsimp only at hSw
            go_simp
            try with_reducible rfl
          try simp only [Act.put, List.setIfInBounds_toArray, List.set_cons_zero, List.set_cons_succ]
          refine wpAnyH_take (i := 4) (v := ?_) rfl (by kernel_rfl) (by kernel_rfl) (by kernel_rfl) (fun _ _ _ h => h) (Or.inl ⟨by rfl, ?_⟩) (by assumption) ?_
          rotate_left
          · intro wq hSw
            try dsimp only at hSw
            go_simp
            try with_reducible rfl
          try simp only [Act.put, List.setIfInBounds_toArray, List.set_cons_zero, List.set_cons_succ]
          refine wpAnyH_take (i := 5) (v := ?_) rfl (by kernel_rfl) (by kernel_rfl) (by kernel_rfl) (fun _ _ _ h => h) (Or.inl ⟨by rfl, ?_⟩) (by assumption) ?_
          rotate_left
          · intro wq hSw
            try dsimp only at hSw
            go_simp
            try with_reducible rfl
          try simp only [Act.put, List.setIfInBounds_toArray, List.set_cons_zero, List.set_cons_succ]
          refine wpAnyH_ready (rs := [2]) (by kernel_rfl) (by simp) ?_
          refine AllReadyH.cons rfl (fun K hK => ?_) AllReadyH.nil
          go_simp
          go_at_call 42
          refine (HF1.out _ hHeld).mono ?_
          rintro e w8 ⟨rfl, hb8⟩
          have hS8 := keepS2 hHeld hb8
          try go_wp2_with fail
          refine hK.out _ _ hS8 (fun hHeld => ?_)
          clear hK K
          try simp only [Act.put, List.setIfInBounds_toArray, List.set_cons_zero, List.set_cons_succ]
          refine wpAnyH_take (i := 3) (v := ?_) rfl (by kernel_rfl) (by kernel_rfl) (by kernel_rfl) (fun _ _ _ h => h) (Or.inl ⟨by rfl, ?_⟩) (by assumption) ?_
          rotate_left
          · intro wq hSw
            try dsimp only at hSw
            go_simp
            try with_reducible rfl
          try simp only [Act.put, List.getElem_toArray, List.getElem_cons_succ, List.getElem_cons_zero, List.setIfInBounds_toArray, List.set_cons_zero, List.set_cons_succ]
          refine wpAnyH_take (i := 6) (v := ?_) rfl (by kernel_rfl) (by kernel_rfl) (by kernel_rfl) (fun _ _ _ h => h) (Or.inl ⟨by rfl, ?_⟩) (by assumption) ?_
          rotate_left
          · intro wq hSw
            try dsimp only at hSw
            go_simp
            try with_reducible rfl
          try simp only [Act.put, List.getElem_toArray, List.getElem_cons_succ, List.getElem_cons_zero, List.setIfInBounds_toArray, List.set_cons_zero, List.set_cons_succ]
          refine wpAnyH_take (i := 7) (v := ?_) rfl (by kernel_rfl) (by kernel_rfl) (by kernel_rfl) (fun _ _ _ h => h) (Or.inl ⟨by rfl, ?_⟩) (by assumption) ?_
          rotate_left
          · intro wq hSw
            try dsimp only at hSw
            go_simp
            try with_reducible rfl
          try simp only [Act.put, List.getElem_toArray, List.getElem_cons_succ, List.getElem_cons_zero, List.setIfInBounds_toArray, List.set_cons_zero, List.set_cons_succ]
          refine wpAnyH_take (i := 8) (v := undef) rfl (by kernel_rfl) (by kernel_rfl) (by kernel_rfl) (fun _ _ _ h => h) (Or.inr ⟨by kernel_rfl, rfl⟩) (by assumption) ?_
          try simp only [Act.put, List.getElem_toArray, List.getElem_cons_succ, List.getElem_cons_zero, List.setIfInBounds_toArray, List.set_cons_zero, List.set_cons_succ]
          refine wpAnyH_take (i := 9) (v := undef) rfl (by kernel_rfl) (by kernel_rfl) (by kernel_rfl) (fun _ _ _ h => h) (Or.inr ⟨by kernel_rfl, rfl⟩) (by assumption) ?_
          try simp only [Act.put, List.getElem_toArray, List.getElem_cons_succ, List.getElem_cons_zero, List.setIfInBounds_toArray, List.set_cons_zero, List.set_cons_succ]
          refine wpAnyH_take (i := 10) (v := undef) rfl (by kernel_rfl) (by kernel_rfl) (by kernel_rfl) (fun _ _ _ h => h) (Or.inr ⟨by kernel_rfl, rfl⟩) (by assumption) ?_
          try simp only [Act.put, List.getElem_toArray, List.getElem_cons_succ, List.getElem_cons_zero, List.setIfInBounds_toArray, List.set_cons_zero, List.set_cons_succ]
          refine wpAnyH_take (i := 11) (v := undef) rfl (by kernel_rfl) (by kernel_rfl) (by kernel_rfl) (fun _ _ _ h => h) (Or.inr ⟨by kernel_rfl, rfl⟩) (by assumption) ?_
          try simp only [Act.put, List.getElem_toArray, List.getElem_cons_succ, List.getElem_cons_zero, List.setIfInBounds_toArray, List.set_cons_zero, List.set_cons_succ]
          refine wpAnyH_take (i := 12) (v := undef) rfl (by kernel_rfl) (by kernel_rfl) (by kernel_rfl) (fun _ _ _ h => h) (Or.inr ⟨by kernel_rfl, rfl⟩) (by assumption) ?_
          try simp only [Act.put, List.getElem_toArray, List.getElem_cons_succ, List.getElem_cons_zero, List.setIfInBounds_toArray, List.set_cons_zero, List.set_cons_succ]
          refine wpAnyH_take (i := 13) (v := undef) rfl (by kernel_rfl) (by kernel_rfl) (by kernel_rfl) (fun _ _ _ h => h) (Or.inr ⟨by kernel_rfl, rfl⟩) (by assumption) ?_
          try simp only [Act.put, List.getElem_toArray, List.getElem_cons_succ, List.getElem_cons_zero, List.setIfInBounds_toArray, List.set_cons_zero, List.set_cons_succ]
          refine wpAnyH_take (i := 14) (v := undef) rfl (by kernel_rfl) (by kernel_rfl) (by kernel_rfl) (fun _ _ _ h => h) (Or.inr ⟨by kernel_rfl, rfl⟩) (by assumption) ?_
          try simp only [Act.put, List.getElem_toArray, List.getElem_cons_succ, List.getElem_cons_zero, List.setIfInBounds_toArray, List.set_cons_zero, List.set_cons_succ]
          refine wpAnyH_take (i := 15) (v := .bool false) rfl (by kernel_rfl) (by kernel_rfl) (by kernel_rfl) (fun _ _ _ h => h) (Or.inl ⟨by kernel_rfl, ?_⟩) (by assumption) ?_
          · intro wq hSw
            try dsimp only at hSw
            go_simp
            try with_reducible rfl
          try simp only [Act.put, List.getElem_toArray, List.getElem_cons_succ, List.getElem_cons_zero, List.setIfInBounds_toArray, List.set_cons_zero, List.set_cons_succ]
          refine wpAnyH_done (by kernel_rfl) ?_ _
          refine NoPanic.normal ?_
          all_goals
            have HX8 := Lib.hid (show Bx w.heap.size w8 _ from ⟨hS8.1, fun i => by rw [hb8.frozen (p := ⟨w.heap.size, i, none⟩) hS.2.2.1]; exact (HX.out.alloc (.cells #[.int .i64 x.1, .bool x.2.1, .string x.2.2] 77)).2.1 i, hS8.2.2.1⟩)
            have HB8 := Lib.hid hS8.2.2.2.2
            clear hS hS8 hb8 hHeld
            go_wp2_with fail
            exact ⟨⟨k + 1, by omega, by go_num, by rw [HE.out], by rw [HE.out], HX8.out, HB8.out⟩, by simp [intOf]; omega⟩
      · obtain rfl : k = ts.length := by omega
        obtain ⟨acc, hacc⟩ : ∃ acc, nxB ts first cs t0 second ts.length = acc := ⟨_, rfl⟩
        rw [hacc]
        clear hx hbr
        cases acc with
        | none =>
          have hnext := nx_day_none K HRL.out s1 s2 hd hacc
          have hd3 : after + 1 + 86400 * ((d + 1 : Nat) : Int) ≤ r := by have := HT0.out; omega
          have HN := Lib.hid hd3
          clear hnext hd3 hacc
          go_wp2_with fail
          exact ⟨⟨d + 1, by go_num, HN.out, HX.out, HR.out⟩, by have := HT0.out; have := HN.out; simp [intOf]; omega⟩
        | some bb =>
          have hbb := nx_day_some K HRL.out s1 s2 ht2 hd hacc
          subst hbb
          clear hacc
          go_wp2_with fail
          go_ret
          exact ⟨rfl, HR.out⟩
end Go.Proofs.Ytgnodiegippkeaa
