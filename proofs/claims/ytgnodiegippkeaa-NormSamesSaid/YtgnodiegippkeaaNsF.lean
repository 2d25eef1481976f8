/- Walk of the reference's Same. -/
import Derived.Test.YtgnodiegippkeaaNsE
import Derived.Test.YtgnodiegippkeaaNsP
import Derived.Test.YtgnodiegippkeaaKeep2
import Derived.Deep.RegionHeld3
import Derived.Deep.DrawnRows
import Derived.Test.YtgnodiegippkeaaNmI
import Derived.Test.YtgnodiegippkeaaTabOfR
import Derived.RegionTactic
import Derived.Test.YtgnodiegippkeaaNsA
import Derived.Test.YtgnodiegippkeaaEqI
namespace Go.Proofs.Ytgnodiegippkeaa
open Go.RowKit
set_option linter.unusedVariables false
attribute [local go_sem ↓] Go.wp_at_zero Go.wp_at_succ
theorem keepS2_base {w W W2 : World} {B g1 g2 : Nat} {c1 c2 : Array Value} (h : (∀ i, W.cell? ⟨g1, i, none⟩ = c1[i]?) ∧ (∀ i, W.cell? ⟨g2, i, none⟩ = c2[i]?) ∧ g1 < W.heap.size ∧ g2 < W.heap.size ∧ Below w.heap.size w W) (h2 : Below B W W2) (hg1 : g1 < B) (hg2 : g2 < B) (hB : w.heap.size ≤ B) :
    (∀ i, W2.cell? ⟨g1, i, none⟩ = c1[i]?) ∧ (∀ i, W2.cell? ⟨g2, i, none⟩ = c2[i]?) ∧ g1 < W2.heap.size ∧ g2 < W2.heap.size ∧ Below w.heap.size w W2 :=
  ⟨fun i => (h2.cell hg1).trans (h.1 i), fun i => (h2.cell hg2).trans (h.2.1 i), Nat.lt_of_lt_of_le h.2.2.1 h2.size, Nat.lt_of_lt_of_le h.2.2.2.1 h2.size, h.2.2.2.2.trans (h2.mono hB)⟩
def sameR (ts : List Ty) (first : Int) (cs : List Ch) (ts2 : List Ty) (first2 : Int) (cs2 : List Ch) : Bool := ((-1125899906842624 : Int) :: ((cs ++ cs2).map (·.1))).all fun t => decide (tabOf ts first cs t = tabOf ts2 first2 cs2 t)
theorem sameR_eq {ts ts2 : List Ty} {f f2 : Int} {cs cs2 : List Ch} (h1 : TabOk ts f cs) (h2 : TabOk ts2 f2 cs2) : sameB (normSt ts f cs) (normSt ts2 f2 cs2) = sameR ts f cs ts2 f2 cs2 := by
  rw [Bool.eq_iff_iff, same_iff h1 h2, sameR, List.all_eq_true]
  simp only [decide_eq_true_eq]
set_option maxRecDepth 100000 in
set_option maxHeartbeats 4000000 in
theorem r_Same (A C A2 C2 : Option Addr) (capT capC capT2 capC2 : Nat) (ts : List Ty) (first : Int) (cs : List Ch) (ts2 : List Ty) (first2 : Int) (cs2 : List Ch) (w : World) (H : TabAt w A C capT capC ts cs) (H2 : TabAt w A2 C2 capT2 capC2 ts2 cs2) (K : TabOk ts first cs) (K2 : TabOk ts2 first2 cs2) :
    Calls Try.prog 20 #[.agg #[.slice A ts.length capT, .int .i64 first, .slice C cs.length capC], .agg #[.slice A2 ts2.length capT2, .int .i64 first2, .slice C2 cs2.length capC2]] w fun e w' => e = .returned (.bool (sameR ts first cs ts2 first2 cs2)) ∧ Below w.heap.size w w' := by
  have k1 := K.cmax
  have k2 := K2.cmax
  obtain ⟨i0, hi0, hz0, hz1, hz2⟩ := info_parts info_int
  obtain ⟨i1, hi1, hy0, hy1, hy2⟩ := info_parts info_Change
  obtain ⟨q1, q2, q4, q5, hb0⟩ := boxes2 w #[.slice A ts.length capT, .int .i64 first, .slice C cs.length capC] #[.slice A2 ts2.length capT2, .int .i64 first2, .slice C2 cs2.length capC2] 25 25
  have X1 := Lib.hid (show Bx w.heap.size _ _ from ⟨q1, fun i => by rw [frozen_old _ _ _ (by rw [size_alloc]; exact Nat.lt_succ_self _), frozen_new _ _ _ _ _ rfl], by rw [q5]; omega⟩)
  have X2 := Lib.hid (show Bx (w.heap.size + 1) _ _ from ⟨q2, q4, by rw [q5]; omega⟩)
  have HO := Lib.hid (World.ownsRow_lit (base := w.heap.size + 1 + 1) (e := 3) (size := 1) ((w.alloc (.cells #[.slice A ts.length capT, .int .i64 first, .slice C cs.length capC] 25)).alloc (.cells #[.slice A2 ts2.length capT2, .int .i64 first2, .slice C2 cs2.length capC2] 25)) #[.int .i64 (-1125899906842624)] 1 (by simp) (by unfold maxLen; omega) (by rfl))
  have HB := Lib.hid (show Below w.heap.size w (((w.alloc (.cells #[.slice A ts.length capT, .int .i64 first, .slice C cs.length capC] 25)).alloc (.cells #[.slice A2 ts2.length capT2, .int .i64 first2, .slice C2 cs2.length capC2] 25)).alloc (.cells #[.int .i64 (-1125899906842624)] 3)) from (by repeat (first | exact Below.refl _ _ | assumption | apply Below.drew | apply below_drewN | (refine Below.alloc ?_ (by simp; try omega) _) | (refine Below.setCell ?_ (by simp; try omega) _))))
  have X1' := Lib.hid (X1.out.alloc (.cells #[.int .i64 (-1125899906842624)] 3))
  have X2' := Lib.hid (X2.out.alloc (.cells #[.int .i64 (-1125899906842624)] 3))
  have hz : ((w.alloc (.cells #[.slice A ts.length capT, .int .i64 first, .slice C cs.length capC] 25)).alloc (.cells #[.slice A2 ts2.length capT2, .int .i64 first2, .slice C2 cs2.length capC2] 25)).heap.size = w.heap.size + 1 + 1 := by simp
  have HZ := Lib.hid (show (((w.alloc (.cells #[.slice A ts.length capT, .int .i64 first, .slice C cs.length capC] 25)).alloc (.cells #[.slice A2 ts2.length capT2, .int .i64 first2, .slice C2 cs2.length capC2] 25)).alloc (.cells #[.int .i64 (-1125899906842624)] 3)).heap.size = w.heap.size + 1 + 1 + 1 by simp)
  rw [hz] at HO
  obtain ⟨L, hL⟩ : ∃ L, cs ++ cs2 = L := ⟨_, rfl⟩
  have HL := Lib.hid hL
  have hLn : L.length = cs.length + cs2.length := by rw [← hL, List.length_append]
  have HLn := Lib.hid hLn
  have hL2 : L.length ≤ 2000 := by omega
  have HR : sameR ts first cs ts2 first2 cs2 = ((-1125899906842624 : Int) :: (L.map (·.1))).all fun t => decide (tabOf ts first cs t = tabOf ts2 first2 cs2 t) := by rw [sameR, hL]
  rw [HR]
  clear q4 q5 q1 q2 X1 X2 hz hL hLn HR hb0
  go_enter Try.func20, Try.ntmps20
  go_wp2_with fail
  revert HO HB X1' X2' HZ
  generalize (((w.alloc (.cells #[.slice A ts.length capT, .int .i64 first, .slice C cs.length capC] 25)).alloc (.cells #[.slice A2 ts2.length capT2, .int .i64 first2, .slice C2 cs2.length capC2] 25)).alloc (.cells #[.int .i64 (-1125899906842624)] 3)) = W1
  intro HO HB X1' X2' HZ
  have hS : (∀ i, W1.drew.cell? ⟨w.heap.size, i, none⟩ = (#[.slice A ts.length capT, .int .i64 first, .slice C cs.length capC] : Array Value)[i]?) ∧ (∀ i, W1.drew.cell? ⟨w.heap.size + 1, i, none⟩ = (#[.slice A2 ts2.length capT2, .int .i64 first2, .slice C2 cs2.length capC2] : Array Value)[i]?) ∧ w.heap.size < W1.drew.heap.size ∧ w.heap.size + 1 < W1.drew.heap.size ∧ Below w.heap.size w W1.drew := ⟨X1'.out.1, X2'.out.1, X1'.out.2.2, X2'.out.2.2, HB.out.drew⟩
  have HC1 := Lib.hid (fun (W : World) (hb : (∀ i, W.cell? ⟨w.heap.size, i, none⟩ = (#[.slice A ts.length capT, .int .i64 first, .slice C cs.length capC] : Array Value)[i]?) ∧ (∀ i, W.cell? ⟨w.heap.size + 1, i, none⟩ = (#[.slice A2 ts2.length capT2, .int .i64 first2, .slice C2 cs2.length capC2] : Array Value)[i]?) ∧ w.heap.size < W.heap.size ∧ w.heap.size + 1 < W.heap.size ∧ Below w.heap.size w W) => (H.below hb.2.2.2.2).C)
  have HC2 := Lib.hid (fun (W : World) (hb : (∀ i, W.cell? ⟨w.heap.size, i, none⟩ = (#[.slice A ts.length capT, .int .i64 first, .slice C cs.length capC] : Array Value)[i]?) ∧ (∀ i, W.cell? ⟨w.heap.size + 1, i, none⟩ = (#[.slice A2 ts2.length capT2, .int .i64 first2, .slice C2 cs2.length capC2] : Array Value)[i]?) ∧ w.heap.size < W.heap.size ∧ w.heap.size + 1 < W.heap.size ∧ Below w.heap.size w W) => (H2.below hb.2.2.2.2).C)
  go_region_held3 (fun w' => (∀ i, w'.cell? ⟨w.heap.size, i, none⟩ = (#[.slice A ts.length capT, .int .i64 first, .slice C cs.length capC] : Array Value)[i]?) ∧ (∀ i, w'.cell? ⟨w.heap.size + 1, i, none⟩ = (#[.slice A2 ts2.length capT2, .int .i64 first2, .slice C2 cs2.length capC2] : Array Value)[i]?) ∧ w.heap.size < w'.heap.size ∧ w.heap.size + 1 < w'.heap.size ∧ Below w.heap.size w w')
    (first | (with_reducible exact hS) | (with_reducible exact hS6) | (with_reducible exact hS5) | (with_reducible assumption))
    (first | (go_at_call 49; refine (r_CopyCh C capC cs _ (HC1.out _ (by assumption)) k1).mono ?_; rintro e w5 ⟨v5, rfl, hO5, hg5⟩; have hb5 := (Below.refl _ _).grown hg5 (Nat.le_refl _) (fun k hk => by cases hk); have hS5 := keepS2 (by assumption) hb5) | (refine step_append_all (by rfl) _ _ _ (by rfl) W1.drew.heap.size 84 i1 _ 2 16 Try.underlying23 hi1 hy0 hy1 hy2 rfl (by omega) v5 cs.length _ (by rfl) hO5 C2 cs2.length capC2 _ (by rfl) ch_flat (ch_src (HC2.out _ (by assumption))) ch_one (by unfold maxLen; omega) (by omega) hb5.size ?_; intro v6 w6 hO6 hg6; have hb6 := below_app hb5.size hO5 hg6; have hS6 := keepS2_base hS5 hb6 hS.2.2.1 hS.2.2.2.1 HB.out.size; obtain ⟨A6, cap6, hv6, g61, g62, hA6⟩ := own_at (xss := L.map chCells) (by rw [← HL.out]; simpa using hO6) (by intro xs hx; obtain ⟨c, _, rfl⟩ := List.mem_map.1 hx; rfl); rw [List.length_map] at hv6 g61; subst hv6))
  rename_i hX
  clear hX
  have HC := Lib.hid (show w6.ownsRow W1.drew.heap.size 84 2 (.slice A6 L.length cap6) L.length (L.map chCells).flatten by rw [← HL.out, List.length_append, List.map_append, List.flatten_append]; rw [← HL.out, List.length_append] at hO6; exact hO6)
  have HO6 := Lib.hid ((own_step (W2 := w5) (own_step (W2 := W1.drew) HO.out ((Below.refl _ _).drew)) hb5).kept hg6 (own_ne (own_step (W2 := w5) (own_step (W2 := W1.drew) HO.out ((Below.refl _ _).drew)) hb5) hO5 (by decide)))
  have HW := Lib.hid (show w.heap.size + 1 + 1 ≤ w6.heap.size by have z1 := hb5.size; have z2 := hb6.size; have z3 := HZ.out; have z4 : W1.drew.heap.size = W1.heap.size := rfl; omega)
  have HS6 := Lib.hid hS6
  clear hO6 hO5 hg6 hg5 hb5 hb6 hS5 hS HC1 HC2 hA6 X1' X2' HB HO HZ hS6
  go_wp2_with fail
  go_loopw [5, 18] (fun v i wr => ∃ k : Nat, k ≤ L.length ∧ i = .int .i64 k ∧ wr.ownsRow (w.heap.size + 1 + 1) 3 1 v (k + 1) ((((-1125899906842624 : Int) :: (L.map Prod.fst).take k).map inCells).flatten) ∧ wr.ownsRow W1.drew.heap.size 84 2 (.slice A6 L.length cap6) L.length (L.map chCells).flatten ∧ ((∀ i, wr.cell? ⟨w.heap.size, i, none⟩ = (#[.slice A ts.length capT, .int .i64 first, .slice C cs.length capC] : Array Value)[i]?) ∧ (∀ i, wr.cell? ⟨w.heap.size + 1, i, none⟩ = (#[.slice A2 ts2.length capT2, .int .i64 first2, .slice C2 cs2.length capC2] : Array Value)[i]?) ∧ w.heap.size < wr.heap.size ∧ w.heap.size + 1 < wr.heap.size ∧ Below w.heap.size w wr) ∧ w.heap.size + 1 + 1 ≤ wr.heap.size) (fun _ i _ => L.length - (intOf i).toNat)
  case atStart => exact ⟨0, Nat.zero_le _, rfl, HO6.out, HC.out, HS6.out, HW.out⟩
  case round =>
    obtain ⟨k, hk, rfl, hO, hC, hs, hsz⟩ := hrel
    have HOr := Lib.hid hO
    have HCr := Lib.hid hC
    have HSr := Lib.hid hs
    clear hs HC HS6 HO6 HW
    by_cases hlt : k < L.length
    · obtain ⟨Ax, capx, hvx, gx1, gx2, hAx⟩ := own_at (xss := L.map chCells) (by simpa using hC) (by intro xs hx; obtain ⟨c, _, rfl⟩ := List.mem_map.1 hx; rfl)
      rw [List.length_map] at hvx gx1
      cases hvx
      obtain ⟨b, o, rfl, hb', c0, c1⟩ := ch_at hAx hlt
      obtain ⟨a, ha⟩ : ∃ a, L[k].1 = a := ⟨_, rfl⟩
      rw [ha] at c0
      have HT := Lib.hid (show (L.map Prod.fst).take (k + 1) = (L.map Prod.fst).take k ++ [a] by
        rw [List.take_succ_eq_append_getElem (by simpa using hlt), List.getElem_map, ha])
      clear hO hC ha hAx
      go_wp2_with (at_builtin; refine wpList_append_lies _ rfl _ _ _ rfl (w.heap.size + 1 + 1) 3 i0 _ 1 8 Try.underlying26 hi0 hz0 hz1 hz2 rfl (by omega) u5 (k + 1) _ rfl ((HOr.out.alloc _).alloc _) ⟨wr.heap.size + 1, 0, none⟩ 1 1 (inCells a) rfl rfl (World.news_of_block (cs := (inCells a).toArray) (t := 3) (fr := (0, 0)) (Blk.new' _ _ _ (by simp))) (by simp [Value.oneCell', inCells]) (by omega) (by unfold maxLen; omega) (by omega) (by simp; omega) (wr.heap.size + 1 + 1) (by simp) ?_; intro gg cap2 w7 hown1 hgrow hat hlt6)
      have hbig : Below (w.heap.size + 1 + 1) wr w7 := (((Below.refl _ _).alloc hsz _).alloc (by simp; omega) _).trans (below_app (by simp; omega) ((HOr.out.alloc _).alloc _) hgrow)
      exact ⟨⟨k + 1, by omega, by go_num, by rw [HT.out]; simpa using hown1, ((HCr.out.alloc _).alloc _).kept hgrow (own_ne HCr.out HOr.out (by decide)), keepS2_base HSr.out hbig (by omega) (by omega) (by omega), Nat.le_trans hsz hbig.size⟩, by simp [intOf]; omega⟩
    · obtain rfl : k = L.length := by omega
      rw [List.take_of_length_le (by simp)] at hO
      obtain ⟨I, hI⟩ : ∃ I, (-1125899906842624 : Int) :: L.map Prod.fst = I := ⟨_, rfl⟩
      have hIn : I.length = L.length + 1 := by rw [← hI]; simp
      have hI2 : (-1125899906842624 : Int) :: L.map (·.1) = I := hI
      rw [hI] at hO
      rw [← hIn] at hO
      obtain ⟨A7, cap7, rfl, g1, g2, hA7⟩ := own_at (xss := I.map inCells) (by simpa using hO) (by intro xs hx; obtain ⟨t, _, rfl⟩ := List.mem_map.1 hx; rfl)
      have HI := Lib.hid hI2
      rw [List.length_map] at g1 ⊢
      have hI3 : I.length ≤ 2001 := by omega
      have HA7 := Lib.hid hA7
      unfold maxLen at g2
      clear hO hC HOr HCr hI hI2 hA7 hIn
      go_wp2_with fail
      go_loopw [30] (fun i wq => ∃ k : Nat, k ≤ I.length ∧ i = .int .i64 k ∧ (∀ j (hj : j < I.length), j < k → tabOf ts first cs I[j] = tabOf ts2 first2 cs2 I[j]) ∧ ((∀ i, wq.cell? ⟨w.heap.size, i, none⟩ = (#[.slice A ts.length capT, .int .i64 first, .slice C cs.length capC] : Array Value)[i]?) ∧ (∀ i, wq.cell? ⟨w.heap.size + 1, i, none⟩ = (#[.slice A2 ts2.length capT2, .int .i64 first2, .slice C2 cs2.length capC2] : Array Value)[i]?) ∧ w.heap.size < wq.heap.size ∧ w.heap.size + 1 < wq.heap.size ∧ Below w.heap.size w wq) ∧ Below wr.heap.size wr wq) (fun i _ => I.length - (intOf i).toNat)
      case atStart => exact ⟨0, Nat.zero_le _, rfl, fun j _ h => absurd h (by omega), HSr.out, Below.refl _ _⟩
      case round =>
        obtain ⟨k, hk, rfl, hn, hs, hbr⟩ := hrel
        have HN := Lib.hid hn
        have HSq := Lib.hid hs
        have HBR := Lib.hid hbr
        clear hn hs
        by_cases hlt : k < I.length
        · obtain ⟨b, o, rfl, hb', c0⟩ := in_at (HA7.out.below hbr) hlt
          obtain ⟨a, ha⟩ : ∃ a, I[k] = a := ⟨_, rfl⟩
          obtain ⟨x, hx⟩ : ∃ x, tabOf ts first cs a = x := ⟨_, rfl⟩
          obtain ⟨y, hy⟩ : ∃ y, tabOf ts2 first2 cs2 a = y := ⟨_, rfl⟩
          have Hx := Lib.hid hx
          have Hy := Lib.hid hy
          have Ha := Lib.hid ha
          rw [ha] at c0
          have HS0 := Lib.hid (show (∀ i, wr.drew.cell? ⟨w.heap.size, i, none⟩ = (#[.slice A ts.length capT, .int .i64 first, .slice C cs.length capC] : Array Value)[i]?) ∧ (∀ i, wr.drew.cell? ⟨w.heap.size + 1, i, none⟩ = (#[.slice A2 ts2.length capT2, .int .i64 first2, .slice C2 cs2.length capC2] : Array Value)[i]?) ∧ w.heap.size < wr.drew.heap.size ∧ w.heap.size + 1 < wr.drew.heap.size ∧ Below w.heap.size w wr.drew from ⟨HSq.out.1, HSq.out.2.1, HSq.out.2.2.1, HSq.out.2.2.2.1, HSq.out.2.2.2.2.drew⟩)
          have HF1 := Lib.hid (fun (W : World) (hb : (∀ i, W.cell? ⟨w.heap.size, i, none⟩ = (#[.slice A ts.length capT, .int .i64 first, .slice C cs.length capC] : Array Value)[i]?) ∧ (∀ i, W.cell? ⟨w.heap.size + 1, i, none⟩ = (#[.slice A2 ts2.length capT2, .int .i64 first2, .slice C2 cs2.length capC2] : Array Value)[i]?) ∧ w.heap.size < W.heap.size ∧ w.heap.size + 1 < W.heap.size ∧ Below w.heap.size w W) (args : Array Value) (he : args = #[.agg #[.slice A ts.length capT, .int .i64 first, .slice C cs.length capC], .int .i64 a]) => (show Calls Try.prog 42 args W (fun e w' => e = .returned (tyV x) ∧ Below W.heap.size W w') by rw [he, ← Hx.out]; exact r_TableOf A C capT capC ts first cs a W (H.below hb.2.2.2.2) K))
          have HF2 := Lib.hid (fun (W : World) (hb : (∀ i, W.cell? ⟨w.heap.size, i, none⟩ = (#[.slice A ts.length capT, .int .i64 first, .slice C cs.length capC] : Array Value)[i]?) ∧ (∀ i, W.cell? ⟨w.heap.size + 1, i, none⟩ = (#[.slice A2 ts2.length capT2, .int .i64 first2, .slice C2 cs2.length capC2] : Array Value)[i]?) ∧ w.heap.size < W.heap.size ∧ w.heap.size + 1 < W.heap.size ∧ Below w.heap.size w W) (args : Array Value) (he : args = #[.agg #[.slice A2 ts2.length capT2, .int .i64 first2, .slice C2 cs2.length capC2], .int .i64 a]) => (show Calls Try.prog 42 args W (fun e w' => e = .returned (tyV y) ∧ Below W.heap.size W w') by rw [he, ← Hy.out]; exact r_TableOf A2 C2 capT2 capC2 ts2 first2 cs2 a W (H2.below hb.2.2.2.2) K2))
          have heq := run_eq_ty x y
          clear hx hy ha hbr
          by_cases hxy : x = y
          · rw [decide_eq_true hxy] at heq
            have HE := Lib.hid (fun j (hj : j < I.length) (h : j < k + 1) => (show tabOf ts first cs I[j] = tabOf ts2 first2 cs2 I[j] from if h2 : j < k then HN.out j hj h2 else (by obtain rfl : j = k := (by omega); rw [Ha.out, Hx.out, Hy.out]; exact hxy)))
            clear hxy
            go_wp2_with fail
            go_region_held3 (fun w' => (∀ i, w'.cell? ⟨w.heap.size, i, none⟩ = (#[.slice A ts.length capT, .int .i64 first, .slice C cs.length capC] : Array Value)[i]?) ∧ (∀ i, w'.cell? ⟨w.heap.size + 1, i, none⟩ = (#[.slice A2 ts2.length capT2, .int .i64 first2, .slice C2 cs2.length capC2] : Array Value)[i]?) ∧ w.heap.size < w'.heap.size ∧ w.heap.size + 1 < w'.heap.size ∧ Below w.heap.size w w')
              (first | (with_reducible exact hS9) | (with_reducible exact hS8) | (with_reducible assumption) | exact HS0.out)
              (first | (go_at_call 42; refine (HF1.out _ (by assumption) _ ?_).mono ?_; (with_reducible rfl); rintro e w8 ⟨rfl, hb8⟩; have hS8 := keepS2 (by assumption) hb8) | (go_at_call 42; refine (HF2.out _ (by assumption) _ ?_).mono ?_; (with_reducible rfl); rintro e w9 ⟨rfl, hb9⟩; have hS9 := keepS2 (by assumption) hb9))
            rename_i hX
            clear hX
            have hb89 := ((Below.refl (wr.heap.size) wr).drew).trans (hb8.trans (hb9.mono hb8.size))
            go_wp2_with fail
            exact ⟨⟨k + 1, by omega, by go_num, HE.out, hS9, HBR.out.trans (hb89.mono HBR.out.size)⟩, by simp [intOf]; omega⟩
          · rw [decide_eq_false hxy] at heq
            have HE := Lib.hid (show (I.all fun t => decide (tabOf ts first cs t = tabOf ts2 first2 cs2 t)) = false from List.all_eq_false.2 ⟨a, by rw [← Ha.out]; exact List.getElem_mem hlt, by rw [Hx.out, Hy.out]; simpa using hxy⟩)
            clear hxy
            go_wp2_with fail
            go_region_held3 (fun w' => (∀ i, w'.cell? ⟨w.heap.size, i, none⟩ = (#[.slice A ts.length capT, .int .i64 first, .slice C cs.length capC] : Array Value)[i]?) ∧ (∀ i, w'.cell? ⟨w.heap.size + 1, i, none⟩ = (#[.slice A2 ts2.length capT2, .int .i64 first2, .slice C2 cs2.length capC2] : Array Value)[i]?) ∧ w.heap.size < w'.heap.size ∧ w.heap.size + 1 < w'.heap.size ∧ Below w.heap.size w w')
              (first | (with_reducible exact hS9) | (with_reducible exact hS8) | (with_reducible assumption) | exact HS0.out)
              (first | (go_at_call 42; refine (HF1.out _ (by assumption) _ ?_).mono ?_; (with_reducible rfl); rintro e w8 ⟨rfl, hb8⟩; have hS8 := keepS2 (by assumption) hb8) | (go_at_call 42; refine (HF2.out _ (by assumption) _ ?_).mono ?_; (with_reducible rfl); rintro e w9 ⟨rfl, hb9⟩; have hS9 := keepS2 (by assumption) hb9))
            rename_i hX
            clear hX
            have hb89 := ((Below.refl (wr.heap.size) wr).drew).trans (hb8.trans (hb9.mono hb8.size))
            go_wp2_with fail
            go_ret
            exact ⟨ret_b (by rw [HI.out]; exact HE.out.symm), hS9.2.2.2.2⟩
        · obtain rfl : k = I.length := by omega
          have HE := Lib.hid (show (I.all fun t => decide (tabOf ts first cs t = tabOf ts2 first2 cs2 t)) = true from List.all_eq_true.2 (fun t ht => by
            obtain ⟨j, hj, e⟩ := List.mem_iff_getElem.1 ht
            rw [← e]; exact decide_eq_true (HN.out j hj hj)))
          clear hbr
          go_wp2_with fail
          go_ret
          exact ⟨ret_b (by rw [HI.out]; exact HE.out.symm), HSq.out.2.2.2.2⟩
end Go.Proofs.Ytgnodiegippkeaa
