/- Walk of the reference's built. -/
import Derived.Test.YtgnodiegippkeaaDoorNmG
import Derived.Deep.Cut
namespace Go.Proofs.YtgnodiegippkeaaDoor
open Go.RowKit
set_option linter.unusedVariables false
attribute [local go_sem ↓] Go.wp_at_zero Go.wp_at_succ
set_option maxRecDepth 100000 in
set_option maxHeartbeats 4000000 in
theorem r_built (x0 : Ty) (A : Option Addr) (capA : Nat) (xs : List Int) (fid : FuncId) (p : Value) (f : Int → Ty) (w : World) (hA : SlAt w w.heap.size 1 A (xs.map inCells)) (h1 : xs.length ≤ capA) (m1 : capA ≤ maxLen) (hl : xs.length ≤ 1000)
    (hx0 : x0.2.2.size ≤ maxLen) (hf : ∀ a, (f a).2.2.size ≤ maxLen)
    (hcf : ∀ (W : World) (args : Array Value), (callFunc fid args).run Tryd.prog W = .ok (.enter fid args) W)
    (hof : ∀ W a, a ∈ xs → Below w.heap.size w W → Calls Tryd.prog fid #[.int .i64 a, p] W fun e w' => e = .returned (tyV (f a)) ∧ Below W.heap.size W w') :
    Calls Tryd.prog 47 #[tyV x0, .slice A xs.length capA, .func (.func fid) #[] #[p]] w (TabPost (nBuild x0 (xs.map fun a => (a, f a))) w) := by
  unfold maxLen at m1
  obtain ⟨i0, hi0, hz0, hz1, hz2⟩ := info_parts info_Type
  obtain ⟨j0, hj0, hy0, hy1, hy2⟩ := info_parts info_Change
  have hnames := Lib.hid (nBuild_all (fun t => t.2.2.size ≤ maxLen) x0 (xs.map fun a => (a, f a)) hx0 (fun c hc => by obtain ⟨a, _, rfl⟩ := List.mem_map.1 hc; exact hf a))
  have HOF := Lib.hid hof
  clear hof hf hx0
  have X2 : Bx (w.heap.size + 1) ((w.alloc (.cells (lsV x0) 66)).alloc (.cells #[.slice none 0 0, .int .i64 0, .slice none 0 0] 32)) #[.slice none 0 0, .int .i64 0, .slice none 0 0] := Bx.new' _ _ _ (by simp)
  have hB0 : Below w.heap.size w ((w.alloc (.cells (lsV x0) 66)).alloc (.cells #[.slice none 0 0, .int .i64 0, .slice none 0 0] 32)) := (by repeat (first | exact Below.refl _ _ | assumption | apply Below.drew | apply below_drewN | (refine Below.alloc ?_ (by simp; try omega) _) | (refine Below.setCell ?_ (by simp; try omega) _)))
  have hz0' : ((w.alloc (.cells (lsV x0) 66)).alloc (.cells #[.slice none 0 0, .int .i64 0, .slice none 0 0] 32)).heap.size = w.heap.size + 1 + 1 := by simp
  have hS : BtC ((((w.alloc (.cells (lsV x0) 66)).alloc (.cells #[.slice none 0 0, .int .i64 0, .slice none 0 0] 32)).alloc (.cells (lsV x0) 66)).alloc (.cells (btV (.slice (some ⟨w.heap.size + 1 + 1, 0, none⟩) 1 1) (.slice none 0 0)) 32) |>.alloc (.cells (lsV x0) 66))
      (w.heap.size + 1 + 1) (w.heap.size + 1 + 1 + 1) (w.heap.size + 1 + 1 + 1 + 1) (.slice (some ⟨w.heap.size + 1 + 1, 0, none⟩) 1 1) (.slice none 0 0) (nBegin x0) := by
    refine ⟨by omega, by omega, Blk.alloc (Blk.new' _ _ _ (by simp)) _, Blk.new' _ _ _ (by simp), ?_, World.ownsRow_nil _ _ _ _, by simp [Value.ownBlock]⟩
    exact ⟨rfl, Or.inr ⟨w.heap.size + 1 + 1, 1, _, rfl, by omega, Blk.alloc (Blk.alloc (Blk.new' _ _ _ (by simp)) _) _, by simp [nBegin], by unfold maxLen; omega, by simp, by simp [nBegin, tyCells]⟩⟩
  have HS := Lib.hid hS
  have HX2 := Lib.hid X2
  have HB0 := Lib.hid hB0
  have HZ0 := Lib.hid hz0'
  clear hS X2 hB0 hz0'
  go_enter Tryd.func47, Tryd.ntmps47
  go_wp2_with fail
  have HBB := Lib.hid (show Below (w.heap.size + 1 + 1) ((w.alloc (.cells (lsV x0) 66)).alloc (.cells #[.slice none 0 0, .int .i64 0, .slice none 0 0] 32)) ((((w.alloc (.cells (lsV x0) 66)).alloc (.cells #[.slice none 0 0, .int .i64 0, .slice none 0 0] 32)).alloc (.cells (lsV x0) 66)).alloc (.cells (btV (.slice (some ⟨w.heap.size + 1 + 1, 0, none⟩) 1 1) (.slice none 0 0)) 32) |>.alloc (.cells (lsV x0) 66)) from (by repeat (first | exact Below.refl _ _ | assumption | apply Below.drew | apply below_drewN | (refine Below.alloc ?_ (by simp; try omega) _) | (refine Below.setCell ?_ (by simp; try omega) _))))
  revert HX2 HB0 HZ0 HBB
  generalize hW0 : (w.alloc (.cells (lsV x0) 66)).alloc (.cells #[.slice none 0 0, .int .i64 0, .slice none 0 0] 32) = W0
  intro HX2 HB0 HZ0 HBB
  subst hW0
  go_loopw [19] (fun i wr => ∃ k : Nat, k ≤ xs.length ∧ i = .int .i64 k ∧ ∃ T C, BtC wr (w.heap.size + 1 + 1) (w.heap.size + 1 + 1 + 1) (w.heap.size + 1 + 1 + 1 + 1) T C (nBuild x0 ((xs.map fun a => (a, f a)).take k)) ∧ Below (w.heap.size + 1 + 1) ((w.alloc (.cells (lsV x0) 66)).alloc (.cells #[.slice none 0 0, .int .i64 0, .slice none 0 0] 32)) wr) (fun i _ => xs.length - (intOf i).toNat)
  case atStart => exact ⟨0, Nat.zero_le _, rfl, _, _, HS.out, HBB.out⟩
  case round =>
    clear HS HBB
    revert HX2 HB0 HZ0
    generalize (w.alloc (.cells (lsV x0) 66)).alloc (.cells #[.slice none 0 0, .int .i64 0, .slice none 0 0] 32) = W0 at *
    intro HX2 HB0 HZ0
    obtain ⟨k, hk, rfl, T, C, hM, hbr⟩ := hrel
    have HM := Lib.hid hM
    have HR := Lib.hid hbr
    have hwr := hM.lst.lt
    by_cases hlt : k < xs.length
    · obtain ⟨b, o, rfl, hb, c0⟩ := in_at (hA.below (HB0.out.trans (hbr.mono (by rw [← HZ0.out]; exact HB0.out.size)))) hlt
      have hax := List.getElem_mem hlt
      obtain ⟨a, ha⟩ : ∃ a, xs[k] = a := ⟨_, rfl⟩
      rw [ha] at c0 hax
      go_wp2_with fail
      refine (HOF.out wr a hax (HB0.out.trans (hbr.mono (by rw [← HZ0.out]; exact HB0.out.size)))).mono ?_
      rintro e w1 ⟨rfl, hb1⟩
      have hM1 := hM.step hb1
      obtain ⟨y, hy⟩ : ∃ y, f a = y := ⟨_, rfl⟩
      rw [hy]
      have HT := Lib.hid (show nBuild x0 ((xs.map fun a => (a, f a)).take (k + 1)) = nStep (nBuild x0 ((xs.map fun a => (a, f a)).take k)) a y by
        have e := nBuild_take x0 (xs.map fun a => (a, f a)) k (by simpa using hlt)
        rw [List.getElem_map, ha] at e
        rw [← hy]; exact e)
      have hn2 := nBuild_len x0 ((xs.map fun a => (a, f a)).take k)
      rw [List.length_take, List.length_map] at hn2
      have hl1 : (nBuild x0 ((xs.map fun a => (a, f a)).take k)).ts.length ≤ 100000 := by omega
      have hl2 : (nBuild x0 ((xs.map fun a => (a, f a)).take k)).cs.length ≤ 100000 := by omega
      obtain ⟨s, hs⟩ : ∃ s, nBuild x0 ((xs.map fun a => (a, f a)).take k) = s := ⟨_, rfl⟩
      rw [hs] at hl1 hl2 hM1 HT
      clear hM HM hs hn2 ha hy c0 hax
      have hl3 := hM1.lst.cell
      have hwz1 : w.heap.size + 1 + 1 + 1 + 1 < w1.heap.size := hM1.lst.lt
      have hBr1 := hbr.trans (hb1.mono (by omega))
      clear hbr HR hb1
      by_cases he : y = s.last
      · have heq := run_eq_ty y s.last
        rw [decide_eq_true he] at heq
        go_wp2_with fail
        exact ⟨⟨k + 1, by omega, by go_num, T, C, by rw [HT.out, nStep_same he]; exact hM1.alloc _, hBr1.alloc (by omega) _⟩, by simp [intOf]; omega⟩
      · have heq := run_eq_ty y s.last
        rw [decide_eq_false he] at heq
        go_wp2_with fail
        clear heq hl3
        have hM2 := hM1.alloc (.cells (lsV y) 66)
        have hX2 := Blk.new w1 (lsV y) 66
        have hBr2 := hBr1.alloc (by omega) (.cells (lsV y) 66)
        have hTC : T.ownBlock ≠ some w1.heap.size ∧ C.ownBlock ≠ some w1.heap.size := ⟨fun e => absurd (hM1.hT.lt _ e).2 (by omega), fun e => absurd (hM1.hC.lt _ e).2 (by omega)⟩
        obtain ⟨A', cap', rfl, g1, g2, hAx⟩ := own_at (xss := s.ts.map tyCells) (by simpa using hM1.hT) (by intro xs hx; obtain ⟨t, _, rfl⟩ := List.mem_map.1 hx; rfl)
        rw [List.length_map] at *
        unfold maxLen at g2
        have HE := Lib.hid he
        clear hM1 hBr1 he hAx
        revert hM2 hX2 hBr2
        generalize w1.alloc (.cells (lsV y) 66) = W2
        intro hX2 hBr2 hM2
        go_loopw [12] (fun kk wi => ∃ j : Nat, j ≤ s.ts.length ∧ kk = .int .i64 j ∧ (∀ i (hi : i < s.ts.length), i < j → ¬ y = s.ts[i]) ∧ BtC wi (w.heap.size + 1 + 1) (w.heap.size + 1 + 1 + 1) (w.heap.size + 1 + 1 + 1 + 1) (.slice A' s.ts.length cap') C s ∧ Blk wi w1.heap.size 66 (lsV y) ∧ Below (w.heap.size + 1 + 1) W0 wi) (fun kk _ => s.ts.length - (intOf kk).toNat)
        case atStart => exact ⟨0, Nat.zero_le _, rfl, fun i _ h => absurd h (by omega), hM2, hX2, hBr2⟩
        case round =>
          clear hM2 hX2 hBr2
          obtain ⟨j, hj, rfl, hn, hM3, hX3, hBr3⟩ := hrel
          have HN := Lib.hid hn
          clear hn
          have x3 := hX3.cell
          have x4 := hM3.blk.cell
          by_cases hjl : j < s.ts.length
          · obtain ⟨A2, cap2, he2, _, _, hA2⟩ := own_at (xss := s.ts.map tyCells) (by simpa using hM3.hT) (by intro xs hx; obtain ⟨t, _, rfl⟩ := List.mem_map.1 hx; rfl)
            simp only [List.length_map] at he2
            cases he2
            obtain ⟨bt, ot, rfl, hbt, c0, c1, c2⟩ := ty_at hA2 hjl
            have hi1 : (0 : Int) ≤ (j : Int) := by omega
            have hi2 : (j : Int) < (s.ts.length : Int) := by omega
            obtain ⟨z, hz⟩ : ∃ z, s.ts[j] = z := ⟨_, rfl⟩
            rw [hz] at c0 c1 c2
            by_cases hzy : z = y
            · have hnum := numTy_at s.ts y j hjl HN.out (hzy.symm.trans hz.symm)
              have hold : addTy s.ts y = s.ts := addTy_old (by rw [← hzy, ← hz]; exact List.getElem_mem hjl)
              have HF := Lib.hid (And.intro hold hnum)
              have heq := run_eq_ty z y
              rw [decide_eq_true hzy] at heq
              have hne : ((j : Int) == (s.ts.length : Int)) = false := by rw [beq_eq_false_iff_ne]; omega
              clear hz hnum hold
              have HM3 := Lib.hid hM3
              have HX3 := Lib.hid hX3
              have HB3 := Lib.hid hBr3
              clear hM3 hX3 hBr3 hA2 hzy
              go_wp2_with fail
              go_quiet (fail)
              rename_i nq
              have hM3 := HM3.out.drewN nq
              have hX3 := HX3.out.drewN nq
              have hBr3 := below_drewN HB3.out nq
              clear c0 c1 c2 x3 x4 HM3 HX3 HB3 heq
              revert hM3 hX3 hBr3
              generalize wr.drewN nq = wv
              intro hM3 hX3 hBr3
              have hC3 := Lib.hid hM3
              have hX4 := Lib.hid hX3
              have hB4 := Lib.hid hBr3
              have z1 := hM3.blk.cell
              have z2 := hM3.blk.lt
              have z3 := hM3.lt
              clear hM3 hX3 hBr3
              go_wp2_with (at_builtin; refine wpList_append_lies _ rfl _ _ _ rfl (w.heap.size + 1 + 1) 56 j0 _ 2 16 Tryd.underlying30 hj0 hy0 hy1 hy2 rfl (by omega) C s.cs.length _ rfl (hC3.out.hC.alloc _) ⟨wv.heap.size, 0, none⟩ 1 1 (chCells (a, (j : Int))) rfl rfl (World.news_of_block (cs := (chCells (a, (j : Int))).toArray) (t := 56) (fr := (0, 0)) (heap_alloc_new wv _)) (by simp [Value.oneCell', chCells]) (by omega) (by unfold maxLen; omega) (by omega) (by simp; omega) (wv.heap.size + 1) (by simp) ?_; intro gc cc w7 hown7 hgrow7 hat7 hlt7; have hm7 := Blk.grown' hgrow7 (hC3.out.blk.alloc _) (hC3.out.blk.own_ne hC3.out.hC (by decide)); have y7 := hm7.cell 2; have y7' := hm7.frz 2; have hx7 := Blk.far (a := ⟨w.heap.size + 1 + 1 + 1, 2, none⟩) (Blk.grown' hgrow7 (hX4.out.alloc _) hTC.2) (by simp; omega) (.slice (some ⟨gc, 0, none⟩) (s.cs.length + 1) cc); have hx7c := hx7.cell; have hl7 := ((bt_app_C (c := (a, (j : Int))) (hC3.out.alloc _) hgrow7 hown7).1.lst).cell; have hl8 := ((bt_app_C (c := (a, (j : Int))) (hC3.out.alloc _) hgrow7 hown7).1.lst).frz; clear hm7)
              have K := bt_app_C (c := (a, (j : Int))) (hC3.out.alloc (.cells #[.int .i64 a, .int .i64 (j : Int)] 56)) hgrow7 hown7
              have L := bt_last (x := y) K.1
              exact ⟨⟨k + 1, by omega, by go_num, _, _, by rw [HT.out, nStep_other HE.out, HF.out.1, HF.out.2]; exact L.1, ((hB4.out.alloc z3 _).trans K.2).trans L.2⟩, by simp [intOf]; omega⟩
            · have heq := run_eq_ty z y
              rw [decide_eq_false hzy] at heq
              have HZ := Lib.hid (fun i (hi : i < s.ts.length) (h : i < j + 1) => (show ¬ y = s.ts[i] from fun e => if h2 : i < j then HN.out i hi h2 e else (by obtain rfl : i = j := (by omega); exact hzy (hz.symm.trans e.symm))))
              clear hz
              have HM3 := Lib.hid hM3
              have HX3 := Lib.hid hX3
              have HB3 := Lib.hid hBr3
              clear hM3 hX3 hBr3 hA2
              go_wp2_with fail
              go_quiet (fail)
              go_wp2_with fail
              exact ⟨⟨j + 1, by omega, by go_num, HZ.out, HM3.out.drewN _, HX3.out.drewN _, below_drewN HB3.out _⟩, by simp [intOf]; omega⟩
          · obtain rfl : j = s.ts.length := by omega
            have hnm : ¬ y ∈ s.ts := fun hm => by obtain ⟨i, hi, e⟩ := List.mem_iff_getElem.1 hm; exact HN.out i hi hi e.symm
            have HF := Lib.hid (And.intro (addTy_new hnm) (numTy_none hnm))
            clear hnm
            have hdd : decide ((s.ts.length : Int) < (s.ts.length : Int)) = false := by simp
            have HM3 := Lib.hid hM3
            have HX3 := Lib.hid hX3
            have HB3 := Lib.hid hBr3
            clear hM3 hX3 hBr3
            go_wp2_with fail
            go_quiet (fail)
            rename_i nq
            have hM3 := HM3.out.drewN nq
            have hX3 := HX3.out.drewN nq
            have hBr3 := below_drewN HB3.out nq
            clear x3 x4 HM3 HX3 HB3
            revert hM3 hX3 hBr3
            generalize wr.drewN nq = wu
            intro hM3 hX3 hBr3
            have hM5 := Lib.hid hM3
            have hX5 := Lib.hid hX3
            have hB5 := Lib.hid hBr3
            have z1 := hM3.blk.cell
            have z2 := hM3.blk.lt
            have z3 := hM3.lt
            have z4 := hX3.cell
            clear hM3 hX3 hBr3
            go_upto_region 13 with (at_builtin; refine wpList_append_lies _ rfl _ _ _ rfl (w.heap.size + 1 + 1) 66 i0 _ 3 32 Tryd.underlying29 hi0 hz0 hz1 hz2 rfl (by omega) (.slice A' s.ts.length cap') s.ts.length _ rfl (hM5.out.hT.alloc _) ⟨wu.heap.size, 0, none⟩ 1 1 (tyCells y) rfl rfl (World.news_of_block (cs := (tyCells y).toArray) (t := 66) (fr := (0, 0)) (heap_alloc_new wu _)) (by simp [Value.oneCell', tyCells]) (by omega) (by unfold maxLen; omega) (by omega) (by simp; omega) (wu.heap.size + 1) (by simp) ?_; intro gt ct w6 hown6 hgrow6 hat6 hlt6; have hm6 := Blk.grown' hgrow6 (hM5.out.blk.alloc _) (hM5.out.blk.own_ne hM5.out.hT (by decide)); have y6 := hm6.cell 0; have y6' := hm6.frz 0; clear hm6)
            have K6 := bt_app_T (x := y) (hM5.out.alloc (.cells (lsV y) 66)) hgrow6 hown6 hat6 (by have := hM5.out.lst.lt; omega)
            have hM3 := K6.1
            have hTx : (Value.slice A' s.ts.length cap').ownBlock ≠ some w1.heap.size := hTC.1
            have hX3 := Blk.far (a := ⟨w.heap.size + 1 + 1 + 1, 0, none⟩) (Blk.grown' hgrow6 (hX5.out.alloc _) hTx) (by simp; omega) (.slice (some ⟨gt, 0, none⟩) (s.ts.length + 1) ct)
            have hBr3 := (hB5.out.alloc z3 (.cells (lsV y) 66)).trans K6.2
            clear K6 y6 y6' hown6 hgrow6 hat6 hlt6 z1 z2 z3 z4
            revert hM3 hX3 hBr3
            generalize w6.setCell ⟨w.heap.size + 1 + 1 + 1, 0, none⟩ (.slice (some ⟨gt, 0, none⟩) (s.ts.length + 1) ct) = wv
            intro hM3 hX3 hBr3
            have hC3 := Lib.hid hM3
            have hX4 := Lib.hid hX3
            have hB4 := Lib.hid hBr3
            have z1 := hM3.blk.cell
            have z2 := hM3.blk.lt
            have z3 := hM3.lt
            clear hM3 hX3 hBr3
            go_wp2_with (at_builtin; refine wpList_append_lies _ rfl _ _ _ rfl (w.heap.size + 1 + 1) 56 j0 _ 2 16 Tryd.underlying30 hj0 hy0 hy1 hy2 rfl (by omega) C s.cs.length _ rfl (hC3.out.hC.alloc _) ⟨wv.heap.size, 0, none⟩ 1 1 (chCells (a, (s.ts.length : Int))) rfl rfl (World.news_of_block (cs := (chCells (a, (s.ts.length : Int))).toArray) (t := 56) (fr := (0, 0)) (heap_alloc_new wv _)) (by simp [Value.oneCell', chCells]) (by omega) (by unfold maxLen; omega) (by omega) (by simp; omega) (wv.heap.size + 1) (by simp) ?_; intro gc cc w7 hown7 hgrow7 hat7 hlt7; have hm7 := Blk.grown' hgrow7 (hC3.out.blk.alloc _) (hC3.out.blk.own_ne hC3.out.hC (by decide)); have y7 := hm7.cell 2; have y7' := hm7.frz 2; have hx7 := Blk.far (a := ⟨w.heap.size + 1 + 1 + 1, 2, none⟩) (Blk.grown' hgrow7 (hX4.out.alloc _) hTC.2) (by simp; omega) (.slice (some ⟨gc, 0, none⟩) (s.cs.length + 1) cc); have hx7c := hx7.cell; have hl7 := ((bt_app_C (c := (a, (s.ts.length : Int))) (hC3.out.alloc _) hgrow7 hown7).1.lst).cell; have hl8 := ((bt_app_C (c := (a, (s.ts.length : Int))) (hC3.out.alloc _) hgrow7 hown7).1.lst).frz; clear hm7)
            have K := bt_app_C (c := (a, (s.ts.length : Int))) (hC3.out.alloc (.cells #[.int .i64 a, .int .i64 (s.ts.length : Int)] 56)) hgrow7 hown7
            have L := bt_last (x := y) K.1
            exact ⟨⟨k + 1, by omega, by go_num, _, _, by rw [HT.out, nStep_other HE.out, HF.out.1, HF.out.2]; exact L.1, ((hB4.out.alloc z3 _).trans K.2).trans L.2⟩, by simp [intOf]; omega⟩
    · obtain rfl : k = xs.length := by omega
      rw [List.take_of_length_le (by simp)] at hM
      obtain ⟨A', capT, A2, capC, rfl, rfl, HT, ha1, ha2⟩ := bt_tab hM hnames.out
      obtain ⟨s, hs⟩ : ∃ s, nBuild x0 (xs.map fun a => (a, f a)) = s := ⟨_, rfl⟩
      rw [hs] at hM HT
      have HS := Lib.hid hs
      clear hs
      have hx2 := HX2.out.step (hbr.mono (by rw [HZ0.out]; exact Nat.le_refl _))
      have z1 := hM.blk.cell
      have z2 := hx2.1
      have z3 := hx2.2.1
      have z4 := hx2.2.2
      have hB3 := HB0.out.trans (hbr.mono (by omega))
      have hHT := Lib.hid (((HT.far (g := w.heap.size + 1) (i := 0) ha1 ha2 (by omega) (.slice A' s.ts.length capT)).far (g := w.heap.size + 1) (i := 1) ha1 ha2 (by omega) (.int .i64 0)).far (g := w.heap.size + 1) (i := 2) ha1 ha2 (by omega) (.slice A2 s.cs.length capC))
      have hab1 := Lib.hid (ha1.mono (show w.heap.size ≤ w.heap.size + 1 + 1 by omega))
      have hab2 := Lib.hid (ha2.mono (show w.heap.size ≤ w.heap.size + 1 + 1 by omega))
      clear hM HM hbr HR ha1 ha2 HT hx2
      go_wp2_with fail
      obtain ⟨q0, q1, q2⟩ := cells3 (W := wr) (g := w.heap.size + 1) (x := .slice A' s.ts.length capT) (y := .int .i64 0) (z := .slice A2 s.cs.length capC) (z2 0) (z2 1) (z2 2)
      exact bodyPost_ret (v := .agg #[.slice A' s.ts.length capT, .int .i64 0, .slice A2 s.cs.length capC]) (by simp [results, Tryd.results47, go_sem, q0, q1, q2]) rfl ⟨A', A2, capT, capC, by rw [HS.out], by rw [HS.out]; exact hHT.out, hab1.out, hab2.out, below3 hB3 (by omega)⟩
end Go.Proofs.YtgnodiegippkeaaDoor
