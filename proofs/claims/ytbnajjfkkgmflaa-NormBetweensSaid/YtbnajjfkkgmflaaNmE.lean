/- Walks of table.Begin and norm.Of. -/
import Derived.Test.YtbnajjfkkgmflaaNmD
namespace Go.Proofs.Ytbnajjfkkgmflaa
open Go.RowKit
set_option linter.unusedVariables false
attribute [local go_sem ↓] Go.wp_at_zero Go.wp_at_succ
def BegPost (x : Ty) (w : World) (e : Ending) (w' : World) : Prop :=
  ∃ m T, e = .returned (.pointer (some ⟨m, 0, none⟩)) ∧ MkC w' w.heap.size m T (.slice none 0 0) (nBegin x) ∧ Below w.heap.size w w'
set_option maxRecDepth 100000 in
theorem m_Begin (x : Ty) (w : World) : Calls Try.prog 29 #[tyV x] w (BegPost x w) := by
  go_enter Try.func29, Try.ntmps29
  go_wp2_with fail
  go_ret
  refine ⟨_, .slice (some ⟨w.heap.size + 1, 0, none⟩) 1 1, rfl, ⟨?_, ?_, ?_, World.ownsRow_nil _ _ _ _⟩, (by repeat (first | exact Below.refl _ _ | assumption | apply Below.drew | apply below_drewN | (refine Below.alloc ?_ (by simp; try omega) _) | (refine Below.setCell ?_ (by simp; try omega) _)))⟩
  · omega
  · exact Blk.new' _ _ _ (by simp)
  · refine ⟨by simp [nBegin, tyCells], Or.inr ⟨w.heap.size + 1, 1, _, rfl, by omega, Blk.alloc (Blk.new' _ _ _ (by simp)) _, by simp [nBegin], by unfold maxLen; omega, by simp, by simp [nBegin, tyCells]⟩⟩
/-- a slice that lies from block B on, if anywhere -/
def Above (B : Nat) (A : Option Addr) : Prop := ∀ a, A = some a → B ≤ a.block
theorem Above.mono {B B' : Nat} {A : Option Addr} (h : Above B A) (hb : B' ≤ B) : Above B' A := fun a e => Nat.le_trans hb (h a e)
theorem SlAt.far {W : World} {B size g i : Nat} {A : Option Addr} {xs : List (List Value)} (h : SlAt W W.heap.size size A xs) (hA : Above B A) (hg : g < B) (v : Value) : SlAt (W.setCell ⟨g, i, none⟩ v) (W.setCell ⟨g, i, none⟩ v).heap.size size A xs := by
  intro hn
  obtain ⟨b, o, h1, h2, h3⟩ := h hn
  have hb := hA _ h1
  refine ⟨b, o, h1, by simpa using h2, fun k hk j hj => ?_⟩
  rw [World.cell?_setCell_other, h3 k hk j hj]
  intro e
  simp at e
  simp at hb
  omega
theorem TabAt.far {W : World} {B g i cT cC : Nat} {A C : Option Addr} {ts : List Ty} {cs : List Ch} (h : TabAt W A C cT cC ts cs) (hA : Above B A) (hC : Above B C) (hg : g < B) (v : Value) : TabAt (W.setCell ⟨g, i, none⟩ v) A C cT cC ts cs :=
  ⟨h.T.far hA hg v, h.C.far hC hg v, h.cT, h.mT, h.cC, h.mC, h.names⟩
/-- what norm.Of and the reference's Norm leave -/
def TabPost (s : NSt) (w : World) (e : Ending) (w' : World) : Prop :=
  ∃ A C capT capC, e = .returned (tabV A C capT capC s.ts 0 s.cs) ∧ TabAt w' A C capT capC s.ts s.cs ∧ Above w.heap.size A ∧ Above w.heap.size C ∧ Below w.heap.size w w'
theorem mk_tab {w : World} {base m : Nat} {T C : Value} {s : NSt} (h : MkC w base m T C s) (hn : ∀ t ∈ s.ts, t.2.2.size ≤ maxLen) :
    ∃ A capA C' capC, T = .slice A s.ts.length capA ∧ C = .slice C' s.cs.length capC ∧ TabAt w A C' capA capC s.ts s.cs := by
  obtain ⟨A, cap, e1, h1, h2, hA⟩ := own_at (xss := s.ts.map tyCells) (by simpa using h.hT) (by intro xs hx; obtain ⟨t, _, rfl⟩ := List.mem_map.1 hx; rfl)
  obtain ⟨A2, cap2, e2, g1, g2, hA2⟩ := own_at (xss := s.cs.map chCells) (by simpa using h.hC) (by intro xs hx; obtain ⟨t, _, rfl⟩ := List.mem_map.1 hx; rfl)
  rw [List.length_map] at e1 e2 h1 g1
  exact ⟨A, cap, A2, cap2, e1, e2, hA, hA2, h1, h2, g1, g2, hn⟩
section
variable {W W2 Wd : World} {base m : Nat} {T C : Value} {s : NSt}
theorem MkC.low (h : MkC W base m T C s) {a : Addr} (ha : a.block < base) (v : Value) : MkC (W.setCell a v) base m T C s :=
  ⟨h.hb, h.blk.far (by have := h.hb; omega) v, ownsRow_setCell_below h.hT ha v, ownsRow_setCell_below h.hC ha v⟩
theorem MkC.far_low (h : MkC W base m T C s) {k : Nat} (hk : k < base) : k ≠ m ∧ T.ownBlock ≠ some k ∧ C.ownBlock ≠ some k :=
  ⟨by have := h.hb; omega, fun e => absurd (h.hT.lt _ e).1 (by omega), fun e => absurd (h.hC.lt _ e).1 (by omega)⟩
theorem MkC.far_new (h : MkC W base m T C s) {k : Nat} (hk : W.heap.size ≤ k) : k ≠ m ∧ T.ownBlock ≠ some k ∧ C.ownBlock ≠ some k :=
  ⟨by have := h.blk.lt; omega, fun e => absurd (h.hT.lt _ e).2 (by omega), fun e => absurd (h.hC.lt _ e).2 (by omega)⟩
theorem nOf_keep {w wr w5 : World} {bt x : Nat} {c1 c2 : Array Value} {v0 v1 v2 : Value} (hM : MkC wr base m T C s) (hb : w.heap.size < base) (hz : Wd.heap.size = wr.heap.size + 1) (hbt : bt < w.heap.size)
    (hS : (∀ i, Wd.cell? ⟨w.heap.size, i, none⟩ = c1[i]?) ∧ (∀ i, Wd.cell? ⟨wr.heap.size, i, none⟩ = c2[i]?) ∧ Wd.cell? ⟨bt, x, none⟩ = some v0 ∧ Wd.cell? ⟨bt, x + 1, none⟩ = some v1 ∧ Wd.cell? ⟨bt, x + 2, none⟩ = some v2)
    (hK : ∀ k, k < Wd.heap.size → k ≠ m → T.ownBlock ≠ some k → C.ownBlock ≠ some k → w5.heap[k]? = Wd.heap[k]?) :
    (∀ i, w5.cell? ⟨w.heap.size, i, none⟩ = c1[i]?) ∧ (∀ i, w5.cell? ⟨wr.heap.size, i, none⟩ = c2[i]?) ∧ w5.cell? ⟨bt, x, none⟩ = some v0 ∧ w5.cell? ⟨bt, x + 1, none⟩ = some v1 ∧ w5.cell? ⟨bt, x + 2, none⟩ = some v2 := by
  have hl := hM.lt
  have f1 := hM.far_low hb
  have f2 := hM.far_new (Nat.le_refl _)
  have f3 := hM.far_low (Nat.lt_trans hbt hb)
  have e1 := hK w.heap.size (by omega) f1.1 f1.2.1 f1.2.2
  have e2 := hK wr.heap.size (by omega) f2.1 f2.2.1 f2.2.2
  have e3 := hK bt (by omega) f3.1 f3.2.1 f3.2.2
  exact ⟨fun i => (World.cell?_of_block (a := ⟨w.heap.size, i, none⟩) e1).trans (hS.1 i), fun i => (World.cell?_of_block (a := ⟨wr.heap.size, i, none⟩) e2).trans (hS.2.1 i),
    (World.cell?_of_block (a := ⟨bt, x, none⟩) e3).trans hS.2.2.1, (World.cell?_of_block (a := ⟨bt, x + 1, none⟩) e3).trans hS.2.2.2.1, (World.cell?_of_block (a := ⟨bt, x + 2, none⟩) e3).trans hS.2.2.2.2⟩
end
theorem getD_all {ts : List Ty} {i : Nat} (h : ∀ t ∈ ts, t.2.2.size ≤ maxLen) : (ts.getD i tyZero).2.2.size ≤ maxLen := by
  by_cases hi : i < ts.length
  · have e : ts.getD i tyZero = ts[i] := by simp [List.getD, hi]
    rw [e]; exact h _ (List.getElem_mem hi)
  · have e : ts.getD i tyZero = tyZero := by simp [List.getD, hi]
    rw [e]; unfold maxLen; decide
set_option maxRecDepth 100000 in
set_option maxHeartbeats 4000000 in
theorem n_Of (A C : Option Addr) (capT capC : Nat) (ts : List Ty) (first : Int) (cs : List Ch) (w : World) (H : TabAt w A C capT capC ts cs) (K : TabOk ts first cs) :
    Calls Try.prog 16 #[.agg #[.slice A ts.length capT, .int .i64 first, .slice C cs.length capC]] w (TabPost (normSt ts first cs) w) := by
  have m1 := H.mT
  have m2 := H.mC
  have m3 := H.cT
  have m4 := H.cC
  have k1 := K.tmax
  have k2 := K.cmax
  unfold maxLen at m1 m2
  have r1 := K.first0
  have r2 := K.first1
  have hnames := Lib.hid (show ∀ t ∈ (normSt ts first cs).ts, t.2.2.size ≤ maxLen from nBuild_all (fun t => t.2.2.size ≤ maxLen) _ _ (getD_all (fun t ht => H.names t ht)) (fun c hc => by obtain ⟨d, _, rfl⟩ := List.mem_map.1 hc; exact getD_all (fun t ht => H.names t ht)))
  obtain ⟨f, rfl⟩ : ∃ f : Nat, first = f := ⟨first.toNat, by omega⟩
  have htn : f < ts.length := by omega
  obtain ⟨q1, q2, q4, q5, hb0⟩ := boxes2 w #[.slice A ts.length capT, .int .i64 f, .slice C cs.length capC] #[.slice none 0 0, .int .i64 0, .slice none 0 0] 25 25
  obtain ⟨bt, ot, hA, hbt, d0, d1, d2⟩ := ty_at (H.T.below hb0) htn
  subst hA
  have H0 := Lib.hid (H.below hb0)
  have HT0 : (ts.getD f tyZero) = ts[f] := by simp [List.getD, htn]
  have HN := Lib.hid (show normSt ts f cs = nBuild ts[f] (cs.map (chTy ts)) by rw [normSt, ← HT0]; rfl)
  obtain ⟨tt, htt⟩ : ∃ tt : Ty, ts[f] = tt := ⟨_, rfl⟩
  rw [htt] at d0 d1 d2 HN
  clear htt HT0
  have X1 := Lib.hid q1
  have X2 := Lib.hid (show Bx (w.heap.size + 1) _ _ from ⟨q2, q4, by rw [q5]; omega⟩)
  have X5 := Lib.hid q5
  have HB := Lib.hid hb0
  clear q1 q2 q4 q5 hb0
  go_enter Try.func16, Try.ntmps16
  go_wp2_with fail
  clear d0 d1 d2
  revert H0 X1 X2 X5 HB
  generalize (w.alloc (.cells #[.slice (some ⟨bt, ot, none⟩) ts.length capT, .int .i64 f, .slice C cs.length capC] 25)).alloc (.cells #[.slice none 0 0, .int .i64 0, .slice none 0 0] 25) = W1
  intro H0 X1 X2 X5 HB
  have HWB := Lib.hid (show w.heap.size < W1.heap.size by rw [X5.out]; exact Nat.lt_succ_of_lt (Nat.lt_succ_self _))
  refine (m_Begin tt _).mono ?_
  rintro e wb ⟨m, T, rfl, hM, hbb⟩
  have hx1 : ∀ i, wb.cell? ⟨w.heap.size, i, none⟩ = (#[.slice (some ⟨bt, ot, none⟩) ts.length capT, .int .i64 f, .slice C cs.length capC] : Array Value)[i]? := fun i => (hbb.cell (by rw [X5.out]; exact Nat.lt_succ_of_lt (Nat.lt_succ_self _))).trans (X1.out i)
  go_wp2_with fail
  clear hx1
  go_loopw [16] (fun i wr => ∃ k : Nat, k ≤ cs.length ∧ i = .int .i64 k ∧ ∃ T' C', MkC wr W1.heap.size m T' C' (nBuild tt ((cs.map (chTy ts)).take k)) ∧ Below W1.heap.size W1 wr) (fun i _ => cs.length - (intOf i).toNat)
  case atStart => exact ⟨0, Nat.zero_le _, rfl, _, _, hM, hbb⟩
  case round =>
    clear hM hbb
    obtain ⟨k, hk, rfl, T', C', hM, hbr⟩ := hrel
    have hx1 : ∀ i, wr.cell? ⟨w.heap.size, i, none⟩ = (#[.slice (some ⟨bt, ot, none⟩) ts.length capT, .int .i64 f, .slice C cs.length capC] : Array Value)[i]? := fun i => (hbr.cell (by rw [X5.out]; exact Nat.lt_succ_of_lt (Nat.lt_succ_self _))).trans (X1.out i)
    have hwz : w.heap.size < wr.heap.size := Nat.lt_of_lt_of_le (by rw [X5.out]; exact Nat.lt_succ_of_lt (Nat.lt_succ_self _)) hbr.size
    have HM := Lib.hid hM
    have HR := Lib.hid hbr
    by_cases hlt : k < cs.length
    · obtain ⟨b, o, rfl, hb, c0, c1⟩ := ch_at (H0.out.C.below hbr) hlt
      have hr4 := K.range cs[k] (List.getElem_mem hlt)
      obtain ⟨r3, r4⟩ := hr4.2.2
      obtain ⟨j, hj⟩ : ∃ j : Nat, cs[k].2 = j := ⟨cs[k].2.toNat, by omega⟩
      rw [hj] at c1 r3 r4
      have hjn : j < ts.length := by omega
      obtain ⟨bt2, ot2, he, hbt2, d0, d1, d2⟩ := ty_at (H0.out.T.below hbr) hjn
      cases he
      have hb' := Nat.lt_of_lt_of_le hb hbr.size
      have hbt' := Nat.lt_of_lt_of_le hbt2 hbr.size
      have HC := Lib.hid (show chTy ts cs[k] = (cs[k].1, ts[j]) by rw [chTy, hj]; simp [List.getD, hjn])
      obtain ⟨a, ha⟩ : ∃ a, cs[k].1 = a := ⟨_, rfl⟩
      obtain ⟨y, hy⟩ : ∃ y, ts[j] = y := ⟨_, rfl⟩
      rw [hy] at d0 d1 d2 HC
      rw [ha] at c0 HC
      have hn2 := nBuild_len tt ((cs.map (chTy ts)).take k)
      rw [List.length_take, List.length_map] at hn2
      have hl1 : (nBuild tt ((cs.map (chTy ts)).take k)).ts.length ≤ 100000 := by omega
      have hl2 : (nBuild tt ((cs.map (chTy ts)).take k)).cs.length ≤ 100000 := by omega
      have HT := Lib.hid (show nBuild tt ((cs.map (chTy ts)).take (k + 1)) = nStep (nBuild tt ((cs.map (chTy ts)).take k)) a y by
        have e := nBuild_take tt (cs.map (chTy ts)) k (by simpa using hlt)
        rw [List.getElem_map, HC.out] at e
        exact e)
      clear hM hbr ha hy hj hr4 hn2
      go_wp2_with fail
      have hS : (∀ i, (wr.alloc (.cells #[.int .i64 a, .int .i64 j] 42)).cell? ⟨w.heap.size, i, none⟩ = (#[.slice (some ⟨bt, ot, none⟩) ts.length capT, .int .i64 f, .slice (some ⟨b, o, none⟩) cs.length capC] : Array Value)[i]?) ∧ (∀ i, (wr.alloc (.cells #[.int .i64 a, .int .i64 j] 42)).cell? ⟨wr.heap.size, i, none⟩ = (#[.int .i64 a, .int .i64 j] : Array Value)[i]?) ∧
        (wr.alloc (.cells #[.int .i64 a, .int .i64 j] 42)).cell? ⟨bt, ot + j * 3, none⟩ = some (.int .i64 y.1) ∧ (wr.alloc (.cells #[.int .i64 a, .int .i64 j] 42)).cell? ⟨bt, ot + j * 3 + 1, none⟩ = some (.bool y.2.1) ∧ (wr.alloc (.cells #[.int .i64 a, .int .i64 j] 42)).cell? ⟨bt, ot + j * 3 + 2, none⟩ = some (.string y.2.2) :=
        ⟨fun i => (cell_old _ _ _ hwz).trans (hx1 i), fun i => cell_new _ _ _ _ _ rfl, (cell_old _ _ _ hbt').trans d0, (cell_old _ _ _ hbt').trans d1, (cell_old _ _ _ hbt').trans d2⟩
      go_region_held3 (fun w' => (∀ i, w'.cell? ⟨w.heap.size, i, none⟩ = (#[.slice (some ⟨bt, ot, none⟩) ts.length capT, .int .i64 f, .slice (some ⟨b, o, none⟩) cs.length capC] : Array Value)[i]?) ∧ (∀ i, w'.cell? ⟨wr.heap.size, i, none⟩ = (#[.int .i64 a, .int .i64 j] : Array Value)[i]?) ∧
        w'.cell? ⟨bt, ot + j * 3, none⟩ = some (.int .i64 y.1) ∧ w'.cell? ⟨bt, ot + j * 3 + 1, none⟩ = some (.bool y.2.1) ∧ w'.cell? ⟨bt, ot + j * 3 + 2, none⟩ = some (.string y.2.2))
        (first | exact hS | exact nOf_keep HM.out HWB.out (by simp) hbt (by assumption) hK5)
        (first | (go_at_call 30; refine (m_Change _ _ _ _ _ a y _ (HM.out.alloc (.cells #[.int .i64 a, .int .i64 j] 42)).drew hl1 hl2).mono ?_; rintro e w5 ⟨T5, C5, rfl, hM5, hB5, hK5⟩))
      rename_i hH
      go_wp2_with fail
      exact ⟨⟨k + 1, by omega, by go_num, T5, C5, by rw [HT.out]; exact hM5, ((HR.out.alloc (by have := HM.out.lt; omega) _).drew).trans hB5⟩, by simp [intOf]; omega⟩
    · obtain rfl : k = cs.length := by omega
      rw [List.take_of_length_le (by simp)] at hM
      rw [← HN.out] at hM
      obtain ⟨A', capA, C'', capC', rfl, rfl, HT⟩ := mk_tab hM hnames.out
      have hx2 := X2.out.step hbr
      have z1 := hM.blk.cell
      have z2 := hx2.1
      have z3 := hx2.2.1
      have z4 := hx2.2.2
      have hmne : ¬ m = w.heap.size + 1 := by have := hM.hb; rw [X5.out] at this; omega
      go_wp2_with fail
      obtain ⟨q0, q1, q2⟩ := cells3 (W := wr) (g := w.heap.size + 1) (x := .slice A' (normSt ts f cs).ts.length capA) (y := .int .i64 0) (z := .slice C'' (normSt ts f cs).cs.length capC') (z2 0) (z2 1) (z2 2)
      have hlow : w.heap.size + 1 < W1.heap.size := by rw [X5.out]; exact Nat.lt_succ_self _
      have hM3 := ((hM.low (a := ⟨w.heap.size + 1, 0, none⟩) hlow (.slice A' (normSt ts f cs).ts.length capA)).low (a := ⟨w.heap.size + 1, 1, none⟩) hlow (.int .i64 0)).low (a := ⟨w.heap.size + 1, 2, none⟩) hlow (.slice C'' (normSt ts f cs).cs.length capC')
      have hB3 := below3 (b3 := w.heap.size + 1) (x := .slice A' (normSt ts f cs).ts.length capA) (y := .int .i64 0) (z := .slice C'' (normSt ts f cs).cs.length capC') (HB.out.trans (hbr.mono (Nat.le_of_lt HWB.out))) (by omega)
      have hab1 := Lib.hid (fun a (e : A' = some a) => Nat.le_trans (Nat.le_of_lt HWB.out) (hM.hT.lt a.block (by rw [e]; rfl)).1)
      have hab2 := Lib.hid (fun a (e : C'' = some a) => Nat.le_trans (Nat.le_of_lt HWB.out) (hM.hC.lt a.block (by rw [e]; rfl)).1)
      clear z1 z2 z3 z4 hx2 HT hM HM
      revert q0 q1 q2 hM3 hB3
      generalize ((wr.setCell ⟨w.heap.size + 1, 0, none⟩ (.slice A' (normSt ts f cs).ts.length capA)).setCell ⟨w.heap.size + 1, 1, none⟩ (.int .i64 0)).setCell ⟨w.heap.size + 1, 2, none⟩ (.slice C'' (normSt ts f cs).cs.length capC') = W'
      intro q0 q1 q2 hM3 hB3
      refine bodyPost_ret (v := .agg #[.slice A' (normSt ts f cs).ts.length capA, .int .i64 0, .slice C'' (normSt ts f cs).cs.length capC']) (by simp [results, Try.results16, go_sem, q0, q1, q2]) rfl ⟨A', C'', capA, capC', rfl, ?_, hab1.out, hab2.out, hB3⟩
      obtain ⟨_, _, _, _, e1, e2, HT⟩ := mk_tab hM3 hnames.out
      cases e1
      cases e2
      exact HT
end Go.Proofs.Ytbnajjfkkgmflaa
