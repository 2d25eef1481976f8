/- Walk of the reference's LongDay. -/
import Derived.Test.YtgnodiegippkeaaWlP
import Derived.Test.YtgnodiegippkeaaWfR
namespace Go.Proofs.Ytgnodiegippkeaa
open Go.RowKit
set_option linter.unusedVariables false
attribute [local go_sem ↓] Go.wp_at_zero Go.wp_at_succ
theorem keepL {w W W2 : World} {g b o : Nat} {c1 : Array Value} {v : Value} (h : (∀ i, W.cell? ⟨g, i, none⟩ = c1[i]?) ∧ W.cell? ⟨b, o, none⟩ = some v ∧ g < W.heap.size ∧ b < W.heap.size ∧ Below w.heap.size w W) (h2 : Below W.heap.size W W2) :
    (∀ i, W2.cell? ⟨g, i, none⟩ = c1[i]?) ∧ W2.cell? ⟨b, o, none⟩ = some v ∧ g < W2.heap.size ∧ b < W2.heap.size ∧ Below w.heap.size w W2 :=
  ⟨fun i => (h2.cell h.2.2.1).trans (h.1 i), (h2.cell h.2.2.2.1).trans h.2.1, Nat.lt_of_lt_of_le h.2.2.1 h2.size, Nat.lt_of_lt_of_le h.2.2.2.1 h2.size, h.2.2.2.2.trans (h2.mono h.2.2.2.2.size)⟩
set_option maxRecDepth 100000 in
set_option maxHeartbeats 8000000 in
theorem r_LongDay (A C : Option Addr) (capT capC : Nat) (ts : List Ty) (first : Int) (cs : List Ch) (n : Int) (w : World) (H : TabAt w A C capT capC ts cs) (K : TabOk ts first cs) (n1 : -10000000 ≤ n) (n2 : n ≤ 10000000) :
    Calls Try.prog 23 #[.agg #[.slice A ts.length capT, .int .i64 first, .slice C cs.length capC], .int .i64 n] w fun e w' => e = .returned (.int .i64 (lgL n (pcAll ts first cs))) ∧ Below w.heap.size w w' := by
  have m1 := H.mT
  have m2 := H.mC
  have m3 := H.cT
  have m4 := H.cC
  have k1 := K.tmax
  have k2 := K.cmax
  unfold maxLen at m1 m2
  obtain ⟨i0, hi0, hz0, hz1, hz2⟩ := info_parts info_int
  have hfo := field_off
  have HRef := Lib.hid (fun (s : List Int) (hs : s.Pairwise (· < ·)) (hm : ∀ b, b ∈ s ↔ b ∈ lgA ts n ts.length ++ lgC cs n cs.length) => lg_ref K n1 n2 hs (fun b => (hm b).trans (lg_mem ts cs n b)))
  have HRan := Lib.hid (fun (s : List Int) (hm : ∀ b, b ∈ s ↔ b ∈ lgA ts n ts.length ++ lgC cs n cs.length) i (hi : i < s.length) => lgBp_range K ((lg_mem ts cs n _).1 ((hm _).1 (List.getElem_mem hi))))
  obtain ⟨F, hF⟩ : ∃ F, 86400 * n = F := ⟨_, rfl⟩
  obtain ⟨T, hT⟩ : ∃ T, 86400 * (n + 1) = T := ⟨_, rfl⟩
  have f1 : -864000000000 ≤ F ∧ F ≤ 864000000000 := by omega
  have f2 : -864000000000 ≤ T ∧ T ≤ 864000086400 := by omega
  obtain ⟨f11, f12⟩ := f1
  obtain ⟨f21, f22⟩ := f2
  have X1 := Lib.hid (Bx.new w #[.slice A ts.length capT, .int .i64 first, .slice C cs.length capC] 25)
  have HB := Lib.hid (show Below w.heap.size w (w.alloc (.cells #[.slice A ts.length capT, .int .i64 first, .slice C cs.length capC] 25)) from (by repeat (first | exact Below.refl _ _ | assumption | apply Below.drew | apply below_drewN | (refine Below.alloc ?_ (by simp; try omega) _) | (refine Below.setCell ?_ (by simp; try omega) _))))
  go_enter Try.func23, Try.ntmps23
  go_wp2_with fail
  have HF := Lib.hid hF
  have HT := Lib.hid hT
  clear hF hT
  revert X1 HB
  generalize w.alloc (.cells #[.slice A ts.length capT, .int .i64 first, .slice C cs.length capC] 25) = W1
  intro X1 HB
  go_loopw [7, 23] (fun v i wr => ∃ k : Nat, k ≤ ts.length ∧ i = .int .i64 k ∧ wr.ownsRow W1.heap.size 3 1 v (lgA ts n k).length ((lgA ts n k).map (Value.int .i64)) ∧ W1.heap.size ≤ wr.heap.size ∧ Bx w.heap.size wr #[.slice A ts.length capT, .int .i64 first, .slice C cs.length capC] ∧ Below w.heap.size w wr) (fun _ i _ => ts.length - (intOf i).toNat)
  case atStart => exact ⟨0, Nat.zero_le _, rfl, World.ownsRow_nil _ _ _ _, Nat.le_refl _, X1.out, HB.out⟩
  case round =>
    obtain ⟨k, hk, rfl, hO, hzW, hx, hbr⟩ := hrel
    have hxW := X1.out.2.2
    have HO := Lib.hid hO
    have HX := Lib.hid hx
    have HR := Lib.hid hbr
    by_cases hlt : k < ts.length
    · obtain ⟨b, o, rfl, hb', d0, d1, d2⟩ := ty_at (H.below hbr).T hlt
      obtain ⟨o1, o2, _⟩ := K.types _ (List.getElem_mem hlt)
      have hsu := lgA_succ n hlt
      have hal := lgA_length (n := n) hk
      obtain ⟨x, hxe⟩ : ∃ x : Ty, ts[k] = x := ⟨_, rfl⟩
      rw [hxe] at d0 d1 d2 o1 o2 hsu
      rw [HF.out, HT.out] at hsu
      have HSU := Lib.hid hsu
      have hal2 : (lgA ts n k).length ≤ 500 := by omega
      clear hxe hO hx hbr hsu hal
      go_wp2_with (at_builtin; refine wpList_append_lies _ rfl _ _ _ rfl W1.heap.size 3 i0 _ 1 8 Try.underlying26 hi0 hz0 hz1 hz2 rfl (by omega) u7 (lgA ts n k).length _ rfl ((HO.out.alloc _).alloc _) ⟨wr.heap.size + 1, 0, none⟩ 2 2 [.int .i64 (F - x.1), .int .i64 (T - x.1)] rfl rfl (World.news_of_block (cs := #[.int .i64 (F - x.1), .int .i64 (T - x.1)]) (t := 3) (fr := (0, 0)) (Blk.new' _ _ _ (by simp))) (by simp [Value.oneCell']) (by omega) (by unfold maxLen; omega) (by omega) (by simp; omega) (wr.heap.size + 1 + 1) (by simp) ?_; intro gg cap3 w9 hown1 hgrow hat hlt6)
      have hbig : Below W1.heap.size wr w9 := (((Below.refl _ _).alloc hzW _).alloc (by simp; omega) _).trans (below_app (by simp; omega) ((HO.out.alloc _).alloc _) hgrow)
      exact ⟨⟨k + 1, by omega, by go_num, by rw [HSU.out, List.length_append, List.map_append]; exact hown1, Nat.le_trans hzW hbig.size, Bx.low HX.out hbig hxW, HR.out.trans (hbig.mono (by omega))⟩, by simp [intOf]; omega⟩
    · obtain rfl : k = ts.length := by omega
      have hal := lgA_length (n := n) hk
      obtain ⟨LA, hLA⟩ : ∃ L, lgA ts n ts.length = L := ⟨_, rfl⟩
      rw [hLA] at HO HRef HRan hal
      have hx0 := hx.1
      clear hO hx hbr hLA
      go_wp2_with fail
      go_loopw [7, 42] (fun v i wq => ∃ k : Nat, k ≤ cs.length ∧ i = .int .i64 k ∧ wq.ownsRow W1.heap.size 3 1 v (LA ++ lgC cs n k).length ((LA ++ lgC cs n k).map (Value.int .i64)) ∧ W1.heap.size ≤ wq.heap.size ∧ Bx w.heap.size wq #[.slice A ts.length capT, .int .i64 first, .slice C cs.length capC] ∧ Below w.heap.size w wq) (fun _ i _ => cs.length - (intOf i).toNat)
      case atStart => exact ⟨0, Nat.zero_le _, rfl, by simpa [lgC] using HO.out, hzW, HX.out, HR.out⟩
      case round =>
        obtain ⟨k, hk, rfl, hO, hzW, hx, hbr⟩ := hrel
        have HO := Lib.hid hO
        have HX := Lib.hid hx
        have HR := Lib.hid hbr
        have hcl := lgC_length cs n k
        have hln : (LA ++ lgC cs n k).length ≤ 1500 := by rw [List.length_append]; omega
        by_cases hlt : k < cs.length
        · obtain ⟨b, o, rfl, hb', d0, d1⟩ := ch_at (H.below hbr).C hlt
          have hr1 := K.range _ (List.getElem_mem hlt)
          obtain ⟨c1, c2, _, _⟩ := hr1
          have hhit := lgC_hit (n := n) hlt
          have hmiss := lgC_miss (n := n) hlt
          obtain ⟨a, ha⟩ : ∃ a, cs[k].1 = a := ⟨_, rfl⟩
          obtain ⟨a2, ha2⟩ : ∃ a, cs[k].2 = a := ⟨_, rfl⟩
          rw [ha] at d0 c1 c2 hhit hmiss
          rw [ha2] at d1
          rw [HF.out, HT.out] at hhit hmiss
          have HH := Lib.hid hhit
          have HM := Lib.hid hmiss
          clear ha ha2 hO hx hbr hhit hmiss hcl
          by_cases hc : F - 80000 < a ∧ a < T + 80000
          · obtain ⟨hc1, hc2⟩ := hc
            have HE := Lib.hid (show LA ++ lgC cs n (k + 1) = (LA ++ lgC cs n k) ++ [a] by rw [HH.out hc1 hc2, List.append_assoc])
            obtain ⟨L1, hL1⟩ : ∃ L, LA ++ lgC cs n k = L := ⟨_, rfl⟩
            rw [hL1] at HO HE hln
            clear hL1
            go_wp2_with (at_builtin; refine wpList_append_lies _ rfl _ _ _ rfl W1.heap.size 3 i0 _ 1 8 Try.underlying26 hi0 hz0 hz1 hz2 rfl (by omega) u7 L1.length _ rfl ((HO.out.alloc _).alloc _) ⟨wr.heap.size + 1, 0, none⟩ 1 1 (inCells a) rfl rfl (World.news_of_block (cs := (inCells a).toArray) (t := 3) (fr := (0, 0)) (Blk.new' _ _ _ (by simp))) (by simp [Value.oneCell', inCells]) (by omega) (by unfold maxLen; omega) (by omega) (by simp; omega) (wr.heap.size + 1 + 1) (by simp) ?_; intro gg cap3 w9 hown1 hgrow hat hlt6)
            have hbig : Below W1.heap.size wr w9 := (((Below.refl _ _).alloc hzW _).alloc (by simp; omega) _).trans (below_app (by simp; omega) ((HO.out.alloc _).alloc _) hgrow)
            exact ⟨⟨k + 1, by omega, by go_num, by rw [HE.out, List.length_append, List.map_append]; exact hown1, Nat.le_trans hzW hbig.size, Bx.low HX.out hbig hxW, HR.out.trans (hbig.mono (by omega))⟩, by simp [intOf]; omega⟩
          · have HE := Lib.hid (HM.out hc)
            have hc' : a ≤ F - 80000 ∨ (F - 80000 < a ∧ T + 80000 ≤ a) := by omega
            clear hc
            rcases hc' with hc1 | ⟨hc1, hc2⟩
            all_goals
              go_wp2_with fail
              exact ⟨⟨k + 1, by omega, by go_num, by rw [HE.out]; exact HO.out.alloc _, by simp; omega, HX.out.alloc _, HR.out.alloc HR.out.size _⟩, by simp [intOf]; omega⟩
        · obtain rfl : k = cs.length := by omega
          obtain ⟨LB, hLB⟩ : ∃ L, LA ++ lgC cs n cs.length = L := ⟨_, rfl⟩
          rw [hLB] at HO HRef HRan hln
          obtain ⟨A2, cap2, rfl, g1, g2, hA2⟩ := own_in HO.out
          have HFS := Lib.hid (r_sorted A2 cap2 LB wr hA2 (by omega) g1 g2)
          clear hO hx hbr hA2 hLB hcl
          go_wp2_with fail
          refine HFS.out.mono ?_
          rintro e w2 ⟨v, s, rfl, hOO, hr, hm, hb⟩
          obtain ⟨hsp, hsum⟩ := HRef.out s hr hm
          have HSum := Lib.hid hsum
          have HRan2 := Lib.hid (HRan.out s hm)
          have HRg := Lib.hid (fun (k : Nat) (hk : k < s.length) => lgR_range (ts := ts) (first := first) (cs := cs) (n := n) hr hk)
          obtain ⟨A3, cap3, rfl, g3, g4, hA3⟩ := own_in hOO
          have HA3 := Lib.hid hA3
          have HX2 := Lib.hid (HX.out.step hb)
          have HR2 := Lib.hid (HR.out.trans (hb.mono HR.out.size))
          unfold maxLen at g4
          have e0 : ∀ i (hi : i < s.length), s.getD i 0 = s[i] := fun i hi => by simp [List.getD, hi]
          have E0 := Lib.hid e0
          clear hr hm hsum hOO hb hA3 e0
          go_wp2_with fail
          go_loopw [12, 13] (fun mv iv wq => ∃ j : Nat, j + 1 ≤ s.length ∧ iv = .int .i64 ((j : Int) + 1) ∧ mv = .int .i64 (lgR ts first cs n s j) ∧ Bx w.heap.size wq #[.slice A ts.length capT, .int .i64 first, .slice C cs.length capC] ∧ Below w.heap.size w wq ∧ Below w2.heap.size w2 wq) (fun _ iv _ => s.length - (intOf iv).toNat)
          case atStart => exact ⟨0, by omega, rfl, rfl, HX2.out, HR2.out, Below.refl _ _⟩
          case round =>
            obtain ⟨j, hj, rfl, rfl, hx, hbr, hbs⟩ := hrel
            have HX := Lib.hid hx
            have HR := Lib.hid hbr
            have HBS := Lib.hid hbs
            have hrg := HRg.out j (by omega)
            rw [E0.out j (by omega), E0.out 0 (by omega)] at hrg
            have hra := HRan2.out j (by omega)
            have hr0 := HRan2.out 0 (by omega)
            rw [HF.out, HT.out] at hra hr0
            obtain ⟨M, hM⟩ : ∃ M, lgR ts first cs n s j = M := ⟨_, rfl⟩
            by_cases hlt : j + 1 < s.length
            · have hsu := lgR_succ ts first cs n s j
              have hrb := HRan2.out (j + 1) hlt
              rw [HF.out, HT.out] at hrb
              rw [E0.out j (by omega), E0.out (j + 1) hlt, hM] at hsu
              rw [hM] at hrg ⊢
              obtain ⟨b, o, rfl, hb', c0⟩ := in_at ((HA3.out.below hbs)) (show j < s.length by omega)
              obtain ⟨_, _, e, _, c1⟩ := in_at ((HA3.out.below hbs)) hlt
              cases e
              obtain ⟨a, ha⟩ : ∃ a, s[j] = a := ⟨_, rfl⟩
              obtain ⟨a1, ha1⟩ : ∃ a, s[j + 1] = a := ⟨_, rfl⟩
              obtain ⟨y, hye⟩ : ∃ y : Ty, tabOf ts first cs a = y := ⟨_, rfl⟩
              have hyr := offT_range K a
              rw [offT, hye] at hyr
              have hIs : lgIs ts first cs n a = decide (F ≤ a + y.1 ∧ a + y.1 < T) := by unfold lgIs offT; rw [hye, HF.out, HT.out]
              rw [ha] at c0 hra hrg hsu
              rw [ha1] at c1 hrb hsu
              have hF1 : ∀ (W : World), Below w.heap.size w W → Calls Try.prog 42 #[.agg #[.slice A ts.length capT, .int .i64 first, .slice C cs.length capC], .int .i64 a] W (fun e w' => e = .returned (.agg #[.int .i64 y.1, .bool y.2.1, .string y.2.2]) ∧ Below W.heap.size W w') := fun W hW => by
                have := r_TableOf A C capT capC ts first cs a W (H.below hW) K
                rw [hye] at this; exact this
              have HF1 := Lib.hid hF1
              have hbl : b < wr.heap.size := Nat.lt_of_lt_of_le hb' hbs.size
              have hS : (∀ i, wr.drew.cell? ⟨w.heap.size, i, none⟩ = (#[.slice A ts.length capT, .int .i64 first, .slice C cs.length capC] : Array Value)[i]?) ∧ wr.drew.cell? ⟨b, o + j, none⟩ = some (.int .i64 a) ∧ w.heap.size < wr.drew.heap.size ∧ b < wr.drew.heap.size ∧ Below w.heap.size w wr.drew := ⟨hx.1, c0, hx.2.2, hbl, hbr.drew⟩
              have HSU := Lib.hid hsu
              have HIS := Lib.hid hIs
              have HC1 := Lib.hid c1
              have hq0 : IntKind.i64.wrap ((j : Int) + 1 - 1) = (j : Int) := by rw [show (j : Int) + 1 - 1 = j by omega]; exact IntWalk.i64_in _ (by omega)
              have hq1 : IntKind.i64.wrap (j : Int) = (j : Int) := IntWalk.i64_in _ (by omega)
              have hq2 : (0 : Int) ≤ (j : Int) := by omega
              have hq3 : (j : Int) < (s.length : Int) := by omega
              have hq4 : IntKind.i64.wrap (a + y.1) = a + y.1 := IntWalk.i64_in _ (by omega)
              have hq5 : ((j : Int) + 1).toNat = j + 1 := by omega
              have hq6 : (0 : Int) ≤ (j : Int) + 1 := by omega
              have hq7 : (j : Int) + 1 < (s.length : Int) := by omega
              clear hx hbr hbs hsu hIs ha ha1 hye hM hF1 c0 c1
              go_wp2_with fail
              go_region_held3 (fun W' => (∀ i, W'.cell? ⟨w.heap.size, i, none⟩ = (#[.slice A ts.length capT, .int .i64 first, .slice C cs.length capC] : Array Value)[i]?) ∧ W'.cell? ⟨b, o + j, none⟩ = some (.int .i64 a) ∧ w.heap.size < W'.heap.size ∧ b < W'.heap.size ∧ Below w.heap.size w W')
                (first | (with_reducible exact hS) | (with_reducible exact hS8) | (with_reducible assumption))
                (first | (go_at_call 42; refine (HF1.out _ (show Below w.heap.size w _ from hS.2.2.2.2)).mono ?_; rintro e w8 ⟨rfl, hb8⟩; have hS8 := keepL hS hb8))
              rename_i hX
              clear hX
              have HX8 := Lib.hid (show Bx w.heap.size w8 _ from ⟨hS8.1, fun i => by rw [hb8.frozen (p := ⟨w.heap.size, i, none⟩) hS.2.2.1]; exact HX.out.drew.2.1 i, hS8.2.2.1⟩)
              have HB8 := Lib.hid hS8.2.2.2.2
              have hb9 : Below wr.heap.size wr w8 := (Below.refl _ _).drew.trans hb8
              have HBS8 := Lib.hid (HBS.out.trans (hb9.mono HBS.out.size))
              have c0 := hS8.2.1
              have c1 := (hb9.cell (p := ⟨b, o + (j + 1), none⟩) hbl).trans HC1.out
              clear hS hS8 hb8 hb9
              by_cases hp : F ≤ a + y.1 ∧ a + y.1 < T
              · obtain ⟨hp1, hp2⟩ := hp
                have HE := Lib.hid (HSU.out.trans (if_pos (HIS.out.trans (decide_eq_true ⟨hp1, hp2⟩))))
                have hw6 : IntKind.i64.wrap (a1 - a) = a1 - a := IntWalk.i64_in _ (by omega)
                have hw7 : IntKind.i64.wrap (M + (a1 - a)) = M + (a1 - a) := IntWalk.i64_in _ (by omega)
                go_wp2_with fail
                go_quiet (fail)
                clear hq0 hq1 hq4 hw6 hw7
                go_wp2_with fail
                exact ⟨⟨j + 1, by omega, by go_num, by rw [HE.out], HX8.out.drewN _, below_drewN HB8.out _, below_drewN HBS8.out _⟩, by simp [intOf]; omega⟩
              · have HE := Lib.hid (HSU.out.trans (if_neg (by rw [HIS.out]; simpa using hp)))
                have hp' : a + y.1 < F ∨ (F ≤ a + y.1 ∧ T ≤ a + y.1) := by omega
                clear hp hq0 hq1 hq4
                rcases hp' with hp1 | ⟨hp1, hp2⟩
                all_goals
                  go_wp2_with fail
                  exact ⟨⟨j + 1, by omega, by go_num, by rw [HE.out], HX8.out, HB8.out, HBS8.out⟩, by simp [intOf]; omega⟩
            · have hjl : (s.length : Int) ≤ (j : Int) + 1 := by omega
              have HV := Lib.hid (show lgL n (pcAll ts first cs) = M by rw [← HSum.out, ← hM, show s.length - 1 = j by omega])
              rw [hM]
              clear hM hrg hra hr0 hx hbr hbs
              go_wp2_with fail
              go_ret
              exact ⟨by rw [HV.out]; rfl, HR.out⟩
end Go.Proofs.Ytgnodiegippkeaa
