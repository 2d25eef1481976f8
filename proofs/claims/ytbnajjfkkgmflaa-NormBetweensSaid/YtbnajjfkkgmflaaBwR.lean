/- Walk of the reference's Between. -/
import Derived.Test.YtbnajjfkkgmflaaBwP
import Derived.Test.YtbnajjfkkgmflaaSrt
import Derived.Test.YtbnajjfkkgmflaaNsE
import Derived.Test.YtbnajjfkkgmflaaNsF
import Derived.Test.YtbnajjfkkgmflaaTabOfR
import Derived.Laws.OwnMore
import Derived.Deep.AppendLies
import Derived.Deep.Cut
namespace Go.Proofs.Ytbnajjfkkgmflaa
open Go.RowKit
set_option linter.unusedVariables false
set_option linter.unusedSimpArgs false
attribute [local go_sem ↓] Go.wp_at_zero Go.wp_at_succ
theorem info_Sp : (Try.prog.info? 27).map (fun i => (i.zero, i.size, i.bytes)) = some (some (.agg #[.int .i64 0, .int .i64 0]), 2, 16) := by kernel_rfl
def spC (p : Sp) : List Value := [.int .i64 p.1, .int .i64 p.2]
theorem spC_len {l : List Sp} : ∀ xs ∈ l.map spC, xs.length = 2 := by intro xs hx; obtain ⟨c, _, rfl⟩ := List.mem_map.1 hx; rfl
theorem spC_flat (l : List Sp) (p : Sp) : ((l ++ [p]).map spC).flatten = (l.map spC).flatten ++ spC p := by simp
/-- the last span's end, stored into the cells -/
theorem spC_set {l : List Sp} {n : Int} (h : l ≠ []) : ((l.map spC).flatten).set ((l.length - 1) * 2 + 1) (.int .i64 n) = ((spLong l n).map spC).flatten ∧ (spLong l n).length = l.length := by
  obtain ⟨l', p, rfl⟩ : ∃ l' p, l = l' ++ [p] := ⟨l.dropLast, l.getLast h, (List.dropLast_concat_getLast h).symm⟩
  have e1 : spLong (l' ++ [p]) n = l' ++ [(p.1, n)] := by unfold spLong; rw [List.getLast?_concat]; simp
  have e2 : (l'.map spC).flatten.length = l'.length * 2 := by rw [flat_len (size := 2) _ spC_len, List.length_map]
  rw [e1, spC_flat, spC_flat]
  refine ⟨?_, by simp⟩
  rw [List.set_append, e2, List.length_append, if_neg (by simp)]
  congr 1
  rw [show (l'.length + [p].length - 1) * 2 + 1 - l'.length * 2 = 1 by simp]
  rfl
def bwIn (fr te : Int) (c : Ch) : Bool := decide (fr < c.1) && decide (c.1 < te)
def bwA (fr te : Int) (L : List Ch) : List Int := fr :: te :: (L.filter (bwIn fr te)).map Prod.fst
theorem bwA_snoc {fr te : Int} {L : List Ch} {k : Nat} (h : k < L.length) : bwA fr te (L.take (k + 1)) = if bwIn fr te L[k] = true then bwA fr te (L.take k) ++ [L[k].1] else bwA fr te (L.take k) := by
  unfold bwA
  rw [List.take_succ_eq_append_getElem h, List.filter_append]
  cases hb : bwIn fr te L[k] <;> simp [hb]
theorem bwA_len (fr te : Int) (L : List Ch) : (bwA fr te L).length ≤ L.length + 2 := by
  unfold bwA
  have := List.length_filter_le (bwIn fr te) L
  simp; omega
theorem rise_len : ∀ {O I : List Int}, O.Pairwise (· < ·) → (∀ x ∈ O, x ∈ I) → O.length ≤ I.length
  | [], _, _, _ => Nat.zero_le _
  | a :: O, I, h, hs => by
    obtain ⟨h1, h2⟩ := List.pairwise_cons.1 h
    have hm : a ∈ I := hs a (by simp)
    have h3 := rise_len (I := I.erase a) h2 (fun x hx => (List.mem_erase_of_ne (by have := h1 x hx; omega)).2 (hs x (by simp [hx])))
    rw [List.length_erase_of_mem hm] at h3
    have : 0 < I.length := List.length_pos_of_mem hm
    simp; omega
/-- do the two tables differ at a time? -/
def bwD (ts : List Ty) (first : Int) (cs : List Ch) (ts2 : List Ty) (first2 : Int) (cs2 : List Ch) (t : Int) : Bool := !decide (tabOf ts first cs t = tabOf ts2 first2 cs2 t)
theorem in_flat1 (O : List Int) (a : Int) : ((O ++ [a]).map inCells).flatten = (O.map inCells).flatten ++ inCells a := by simp
set_option maxRecDepth 100000 in
set_option maxHeartbeats 8000000 in
theorem r_Between (A C A2 C2 : Option Addr) (capT capC capT2 capC2 : Nat) (ts : List Ty) (first : Int) (cs : List Ch) (ts2 : List Ty) (first2 : Int) (cs2 : List Ch) (fr te : Int) (w : World) (H : TabAt w A C capT capC ts cs) (H2 : TabAt w A2 C2 capT2 capC2 ts2 cs2) (K : TabOk ts first cs) (K2 : TabOk ts2 first2 cs2) :
    Calls Try.prog 8 #[.agg #[.slice A ts.length capT, .int .i64 first, .slice C cs.length capC], .agg #[.slice A2 ts2.length capT2, .int .i64 first2, .slice C2 cs2.length capC2], .agg #[.int .i64 fr, .int .i64 te]] w fun e w' => ∃ v O, e = .returned v ∧ w'.ownsRow w.heap.size 27 2 v (runR (bwD ts first cs ts2 first2 cs2) O [] false).length ((runR (bwD ts first cs ts2 first2 cs2) O [] false).map spC).flatten ∧ O.Pairwise (· < ·) ∧ (∀ x, x ∈ O ↔ x ∈ bwA fr te (cs ++ cs2)) ∧ Below w.heap.size w w' := by
  have k1 := K.cmax
  have k2 := K2.cmax
  obtain ⟨i0, hi0, hz0, hz1, hz2⟩ := info_parts info_int
  obtain ⟨i1, hi1, hy0, hy1, hy2⟩ := info_parts info_Change
  obtain ⟨i2, his, hx0, hx1, hx2⟩ := info_parts info_Sp
  have b1 := (Below.refl w.heap.size w).alloc (Nat.le_refl _) (.cells #[.slice A ts.length capT, .int .i64 first, .slice C cs.length capC] 25)
  have x1 := Blk.new w #[.slice A ts.length capT, .int .i64 first, .slice C cs.length capC] 25
  obtain ⟨W1, hW1⟩ : ∃ W1, w.alloc (.cells #[.slice A ts.length capT, .int .i64 first, .slice C cs.length capC] 25) = W1 := ⟨_, rfl⟩
  have hs1 : W1.heap.size = w.heap.size + 1 := by rw [← hW1, size_alloc]
  rw [hW1] at b1 x1
  have b2 := b1.alloc b1.size (.cells #[.slice A2 ts2.length capT2, .int .i64 first2, .slice C2 cs2.length capC2] 25)
  have x2 := Blk.new' W1 #[.slice A2 ts2.length capT2, .int .i64 first2, .slice C2 cs2.length capC2] 25 hs1.symm
  have x1 := x1.alloc (.cells #[.slice A2 ts2.length capT2, .int .i64 first2, .slice C2 cs2.length capC2] 25)
  obtain ⟨W2, hW2⟩ : ∃ W2, W1.alloc (.cells #[.slice A2 ts2.length capT2, .int .i64 first2, .slice C2 cs2.length capC2] 25) = W2 := ⟨_, rfl⟩
  have hs2 : W2.heap.size = w.heap.size + 1 + 1 := by rw [← hW2, size_alloc, hs1]
  rw [hW2] at b2 x1 x2
  have b3 := b2.alloc b2.size (.cells #[.int .i64 fr, .int .i64 te] 27)
  have x3 := Blk.new' W2 #[.int .i64 fr, .int .i64 te] 27 hs2.symm
  have x1 := x1.alloc (.cells #[.int .i64 fr, .int .i64 te] 27)
  have x2 := x2.alloc (.cells #[.int .i64 fr, .int .i64 te] 27)
  obtain ⟨W3, hW3⟩ : ∃ W3, W2.alloc (.cells #[.int .i64 fr, .int .i64 te] 27) = W3 := ⟨_, rfl⟩
  rw [hW3] at b3 x1 x2 x3
  have f3 := x3.cell
  have f3l := x3.lt
  have HO := Lib.hid (World.ownsRow_lit (base := w.heap.size) (e := 3) (size := 1) W3 #[.int .i64 fr, .int .i64 te] 2 b3.size (by unfold maxLen; omega) (by simp))
  have X1 := Lib.hid (x1.alloc (.cells #[.int .i64 fr, .int .i64 te] 3))
  have X2 := Lib.hid (x2.alloc (.cells #[.int .i64 fr, .int .i64 te] 3))
  have X3 := Lib.hid (x3.alloc (.cells #[.int .i64 fr, .int .i64 te] 3))
  have HB := Lib.hid (b3.alloc b3.size (.cells #[.int .i64 fr, .int .i64 te] 3))
  obtain ⟨L, hL⟩ : ∃ L, cs ++ cs2 = L := ⟨_, rfl⟩
  have HL := Lib.hid hL
  have hLn : L.length ≤ 2000 := by rw [← hL, List.length_append]; omega
  rw [hL]
  have HT := Lib.hid H
  have HT2 := Lib.hid H2
  have HK := Lib.hid K
  have HK2 := Lib.hid K2
  clear H H2 K K2 hL b1 b2 b3 x1 x2 x3
  obtain ⟨D, hD⟩ : ∃ D, bwD ts first cs ts2 first2 cs2 = D := ⟨_, rfl⟩
  have HD := Lib.hid (show ∀ t, D t = !decide (tabOf ts first cs t = tabOf ts2 first2 cs2 t) from fun t => by rw [← hD]; rfl)
  rw [hD]
  clear hD
  go_enter Try.func8, Try.ntmps8
  go_upto_region 2 with fail
  clear f3 f3l hW1 hW2 hs1 hs2
  obtain ⟨W4, hW4⟩ : ∃ W, W3.alloc (.cells #[.int .i64 fr, .int .i64 te] 3) = W := ⟨_, rfl⟩
  obtain ⟨g4, hg4⟩ : ∃ g, W3.heap.size = g := ⟨_, rfl⟩
  rw [hW4] at HO X1 X2 X3 HB ⊢
  rw [hg4] at HO ⊢
  clear hW4 hg4 hW3
  have f1 := X1.out.cell
  have f1l := X1.out.lt
  have f2 := X2.out.cell
  have f2l := X2.out.lt
  refine wp_region_noPanic ?_
  refine wp_region_held_drew (S := fun W' : World => Below W4.heap.size W4 W') (by kernel_rfl) (Below.refl _ _).drew (fun hHeld0 => ?_)
  have hHeld : Below W4.heap.size W4 W4.drew := hHeld0
  clear hHeld0
  refine wpAnyH_take (i := 0) (v := ?_) rfl (by kernel_rfl) (by kernel_rfl) (by kernel_rfl) (fun _ _ _ h => h) (Or.inl ⟨by rfl, ?_⟩) hHeld ?_
  rotate_left
  · intro wq hSw
    have q1 := fun i => (hSw.cell (p := ⟨w.heap.size, i, none⟩) f1l).trans (f1 i)
    have q2 := fun i => (hSw.cell (p := ⟨w.heap.size + 1, i, none⟩) f2l).trans (f2 i)
    go_simp
    try with_reducible rfl
  try simp only [Act.put, List.getElem_toArray, List.getElem_cons_succ, List.getElem_cons_zero, List.setIfInBounds_toArray, List.set_cons_zero, List.set_cons_succ]
  refine wpAnyH_take (i := 1) (v := ?_) rfl (by kernel_rfl) (by kernel_rfl) (by kernel_rfl) (fun _ _ _ h => h) (Or.inl ⟨by rfl, ?_⟩) hHeld ?_
  rotate_left
  · intro wq hSw
    have q1 := fun i => (hSw.cell (p := ⟨w.heap.size, i, none⟩) f1l).trans (f1 i)
    have q2 := fun i => (hSw.cell (p := ⟨w.heap.size + 1, i, none⟩) f2l).trans (f2 i)
    go_simp
    try with_reducible rfl
  try simp only [Act.put, List.getElem_toArray, List.getElem_cons_succ, List.getElem_cons_zero, List.setIfInBounds_toArray, List.set_cons_zero, List.set_cons_succ]
  refine wpAnyH_take (i := 3) (v := ?_) rfl (by kernel_rfl) (by kernel_rfl) (by kernel_rfl) (fun _ _ _ h => h) (Or.inl ⟨by rfl, ?_⟩) hHeld ?_
  rotate_left
  · intro wq hSw
    have q1 := fun i => (hSw.cell (p := ⟨w.heap.size, i, none⟩) f1l).trans (f1 i)
    have q2 := fun i => (hSw.cell (p := ⟨w.heap.size + 1, i, none⟩) f2l).trans (f2 i)
    go_simp
    try with_reducible rfl
  try simp only [Act.put, List.getElem_toArray, List.getElem_cons_succ, List.getElem_cons_zero, List.setIfInBounds_toArray, List.set_cons_zero, List.set_cons_succ]
  refine wpAnyH_take (i := 4) (v := ?_) rfl (by kernel_rfl) (by kernel_rfl) (by kernel_rfl) (fun _ _ _ h => h) (Or.inl ⟨by rfl, ?_⟩) hHeld ?_
  rotate_left
  · intro wq hSw
    have q1 := fun i => (hSw.cell (p := ⟨w.heap.size, i, none⟩) f1l).trans (f1 i)
    have q2 := fun i => (hSw.cell (p := ⟨w.heap.size + 1, i, none⟩) f2l).trans (f2 i)
    go_simp
    try with_reducible rfl
  try simp only [Act.put, List.getElem_toArray, List.getElem_cons_succ, List.getElem_cons_zero, List.setIfInBounds_toArray, List.set_cons_zero, List.set_cons_succ]
  refine wpAnyH_take (i := 7) (v := ?_) rfl (by kernel_rfl) (by kernel_rfl) (by kernel_rfl) (fun _ _ _ h => h) (Or.inl ⟨by rfl, ?_⟩) hHeld ?_
  rotate_left
  · intro wq hSw
    have q1 := fun i => (hSw.cell (p := ⟨w.heap.size, i, none⟩) f1l).trans (f1 i)
    have q2 := fun i => (hSw.cell (p := ⟨w.heap.size + 1, i, none⟩) f2l).trans (f2 i)
    go_simp
    try with_reducible rfl
  try simp only [Act.put, List.getElem_toArray, List.getElem_cons_succ, List.getElem_cons_zero, List.setIfInBounds_toArray, List.set_cons_zero, List.set_cons_succ]
  refine wpAnyH_ready (rs := [2]) (by kernel_rfl) (by simp) ?_
  refine AllReadyH.cons rfl (fun K hK => ?_) AllReadyH.nil
  go_simp
  go_at_call 17
  refine (r_CopyCh C capC cs _ (HT.out.below (HB.out.trans (hHeld.mono HB.out.size))).C k1).mono ?_
  rintro e w5 ⟨v5, rfl, hO5, hg5⟩
  have hb5 := (Below.refl W4.drew.heap.size W4.drew).grown hg5 (Nat.le_refl _) (fun k hk => by cases hk)
  have hS8 := hHeld.trans (hb5.mono hHeld.size)
  try go_wp2_with fail
  refine hK.out _ _ hS8 (fun hHeld2 => ?_)
  clear hK K hHeld hHeld2
  have hHeld := hS8
  clear hS8
  try simp only [Act.put, List.getElem_toArray, List.getElem_cons_succ, List.getElem_cons_zero, List.setIfInBounds_toArray, List.set_cons_zero, List.set_cons_succ]
  refine wpAnyH_ready (rs := [5]) (by kernel_rfl) (by simp) ?_
  refine AllReadyH.cons rfl (fun K hK => ?_) AllReadyH.nil
  refine step_append_all (by rfl) _ _ _ (by rfl) W4.drew.heap.size 42 i1 _ 2 16 Try.underlying23 hi1 hy0 hy1 hy2 rfl (by omega) v5 cs.length _ (by rfl) hO5 C2 cs2.length capC2 _ (by rfl) ch_flat (ch_src (HT2.out.below (HB.out.trans (hHeld.mono HB.out.size))).C) ch_one (by unfold maxLen; omega) (by omega) hb5.size ?_
  intro v6 w6 hO6 hg6
  have hb6 := below_app hb5.size hO5 hg6
  obtain ⟨A6, cap6, hv6, g61, g62, hA6⟩ := own_at (xss := L.map chCells) (by rw [← HL.out]; simpa using hO6) (by intro xs hx; obtain ⟨c, _, rfl⟩ := List.mem_map.1 hx; rfl)
  rw [List.length_map] at hv6 g61
  subst hv6
  have hS8 : Below W4.heap.size W4 w6 := hHeld.trans hb6
  refine hK.out _ _ hS8 (fun hHeld2 => ?_)
  clear hK K hHeld hHeld2
  have hHeld := hS8
  clear hS8
  try simp only [Act.put, List.getElem_toArray, List.getElem_cons_succ, List.getElem_cons_zero, List.setIfInBounds_toArray, List.set_cons_zero, List.set_cons_succ]
  refine wpAnyH_take (i := 6) (v := ?_) rfl (by kernel_rfl) (by kernel_rfl) (by kernel_rfl) (fun _ _ _ h => h) (Or.inl ⟨by rfl, ?_⟩) hHeld ?_
  rotate_left
  · intro wq hSw
    go_simp
    try with_reducible rfl
  try simp only [Act.put, List.getElem_toArray, List.getElem_cons_succ, List.getElem_cons_zero, List.setIfInBounds_toArray, List.set_cons_zero, List.set_cons_succ]
  refine wpAnyH_done (by kernel_rfl) ?_ _
  refine NoPanic.normal ?_
  have HC := Lib.hid (show w6.ownsRow W4.drew.heap.size 42 2 (.slice A6 L.length cap6) L.length (L.map chCells).flatten by rw [← HL.out, List.length_append, List.map_append, List.flatten_append]; rw [← HL.out, List.length_append] at hO6; exact hO6)
  have HO6 := Lib.hid ((own_step (W2 := w5) (own_step (W2 := W4.drew) HO.out ((Below.refl _ _).drew)) hb5).kept hg6 (own_ne (own_step (W2 := w5) (own_step (W2 := W4.drew) HO.out ((Below.refl _ _).drew)) hb5) hO5 (by decide)))
  replace X1 := Lib.hid (X1.out.step hHeld)
  replace X2 := Lib.hid (X2.out.step hHeld)
  replace X3 := Lib.hid (X3.out.step hHeld)
  replace HB := Lib.hid (HB.out.trans (hHeld.mono HB.out.size))
  clear hO6 hO5 hg6 hg5 hb5 hb6 hA6 HO hHeld f1 f1l f2 f2l g61 g62
  obtain ⟨B6, hB6⟩ : ∃ n, W4.drew.heap.size = n := ⟨_, rfl⟩
  rw [hB6] at HC
  clear hB6
  go_wp2_with fail
  go_loopw [7, 27] (fun v i wr => ∃ (k : Nat) (I : List Int), k ≤ L.length ∧ i = .int .i64 k ∧ I = bwA fr te (L.take k) ∧ Hid (wr.ownsRow w.heap.size 3 1 v I.length (I.map inCells).flatten) ∧ Hid (wr.ownsRow B6 42 2 (.slice A6 L.length cap6) L.length (L.map chCells).flatten) ∧ Hid (Blk wr w.heap.size 25 #[.slice A ts.length capT, .int .i64 first, .slice C cs.length capC]) ∧ Hid (Blk wr (w.heap.size + 1) 25 #[.slice A2 ts2.length capT2, .int .i64 first2, .slice C2 cs2.length capC2]) ∧ Hid (Blk wr (w.heap.size + 1 + 1) 27 #[.int .i64 fr, .int .i64 te]) ∧ Hid (Below w.heap.size w wr)) (fun _ i _ => L.length - (intOf i).toNat)
  case atStart => exact ⟨0, [fr, te], Nat.zero_le _, rfl, rfl, HO6, HC, X1, X2, X3, HB⟩
  case round =>
    clear HO6 HC X1 X2 X3 HB
    obtain ⟨k, I, hk, rfl, hI, HO, HC, X1, X2, X3, HB⟩ := hrel
    have hIl : I.length ≤ 2002 := by have := bwA_len fr te (L.take k); rw [← hI, List.length_take] at this; omega
    have hbz := HB.out.size
    by_cases hlt : k < L.length
    · obtain ⟨Ax, capx, hvx, gx1, gx2, hAx⟩ := own_at (xss := L.map chCells) (by simpa using HC.out) (by intro xs hx; obtain ⟨c, _, rfl⟩ := List.mem_map.1 hx; rfl)
      rw [List.length_map] at hvx gx1
      cases hvx
      obtain ⟨b, o, rfl, hb', c0, c1⟩ := ch_at hAx hlt
      have hi1 : (0 : Int) ≤ (k : Int) := by omega
      have hi2 : (k : Int) < (L.length : Int) := by omega
      have hsn := bwA_snoc (fr := fr) (te := te) hlt
      rw [← hI] at hsn
      obtain ⟨⟨a, ty⟩, hc⟩ : ∃ c, L[k] = c := ⟨_, rfl⟩
      simp only [hc] at c0 c1 hsn
      clear hc hAx hI
      have f3 := X3.out.cell
      have f3l := X3.out.lt
      have HSN := Lib.hid hsn
      clear hsn
      cases hbi : bwIn fr te (a, ty) with
      | true =>
        have p1 : decide (fr < a) = true := by unfold bwIn at hbi; rw [Bool.and_eq_true] at hbi; exact hbi.1
        have p2 : decide (a < te) = true := by unfold bwIn at hbi; rw [Bool.and_eq_true] at hbi; exact hbi.2
        have HS2 := Lib.hid (show I ++ [a] = bwA fr te (L.take (k + 1)) by rw [HSN.out, hbi]; rfl)
        clear hbi HSN
        go_wp2_with (at_builtin; refine wpList_append_lies _ rfl _ _ _ rfl w.heap.size 3 i0 _ 1 8 Try.underlying39 hi0 hz0 hz1 hz2 rfl (by omega) u7 I.length _ rfl ((HO.out.alloc (.cells #[.int .i64 a, .int .i64 ty] 42)).alloc (.cells #[.int .i64 a] 3)) ⟨wr.heap.size + 1, 0, none⟩ 1 1 (inCells a) rfl rfl (World.news_of_block (cs := (inCells a).toArray) (t := 3) (fr := (0, 0)) (Blk.new' _ _ _ (by simp))) (by simp [Value.oneCell', inCells]) (by omega) (by unfold maxLen; omega) (by omega) (by simp; omega) (wr.heap.size + 2) (by simp) ?_; intro gg cap9 w9 hown9 hgrow hat hlt9)
        have HOa := (HO.out.alloc (.cells #[.int .i64 a, .int .i64 ty] 42)).alloc (.cells #[.int .i64 a] 3)
        have X19 := Lib.hid (Blk.grown' hgrow ((X1.out.alloc (.cells #[.int .i64 a, .int .i64 ty] 42)).alloc (.cells #[.int .i64 a] 3)) (Blk.own_ne ((X1.out.alloc _).alloc _) HOa (by decide)))
        have X29 := Lib.hid (Blk.grown' hgrow ((X2.out.alloc (.cells #[.int .i64 a, .int .i64 ty] 42)).alloc (.cells #[.int .i64 a] 3)) (Blk.own_ne ((X2.out.alloc _).alloc _) HOa (by decide)))
        have X39 := Lib.hid (Blk.grown' hgrow ((X3.out.alloc (.cells #[.int .i64 a, .int .i64 ty] 42)).alloc (.cells #[.int .i64 a] 3)) (Blk.own_ne ((X3.out.alloc _).alloc _) HOa (by decide)))
        have hba := (HB.out.alloc hbz (.cells #[.int .i64 a, .int .i64 ty] 42)).alloc (by simp; omega) (.cells #[.int .i64 a] 3)
        have HB9 := Lib.hid (hba.trans (below_app hba.size HOa hgrow))
        have HCa := (HC.out.alloc (.cells #[.int .i64 a, .int .i64 ty] 42)).alloc (.cells #[.int .i64 a] 3)
        have HC9 := Lib.hid (HCa.kept hgrow (own_ne HCa HOa (by decide)))
        have HO9 := Lib.hid (show w9.ownsRow w.heap.size 3 1 (.slice (some ⟨gg, 0, none⟩) (I.length + 1) cap9) (I ++ [a]).length ((I ++ [a]).map inCells).flatten by rw [in_flat1, List.length_append]; exact hown9)
        exact ⟨⟨k + 1, I ++ [a], by omega, by go_num, HS2.out, HO9, HC9, X19, X29, X39, HB9⟩, by simp [intOf]; omega⟩
      | false =>
        have HS2 := Lib.hid (show I = bwA fr te (L.take (k + 1)) by rw [HSN.out, hbi]; rfl)
        have hb0 := (Below.refl wr.heap.size wr).alloc (Nat.le_refl _) (.cells #[.int .i64 a, .int .i64 ty] 42)
        have X19 := Lib.hid (X1.out.step hb0)
        have X29 := Lib.hid (X2.out.step hb0)
        have X39 := Lib.hid (X3.out.step hb0)
        have HB9 := Lib.hid (HB.out.trans (hb0.mono hbz))
        have HC9 := Lib.hid (own_step HC.out hb0)
        have HO9 := Lib.hid (own_step HO.out hb0)
        by_cases p1 : fr < a
        · have p2 : decide (a < te) = false := by unfold bwIn at hbi; rw [decide_eq_true p1] at hbi; simpa using hbi
          replace p1 := decide_eq_true p1
          clear hbi HSN HO HC X1 X2 X3 HB
          go_wp2_with fail
          exact ⟨⟨k + 1, I, by omega, by go_num, HS2.out, HO9, HC9, X19, X29, X39, HB9⟩, by simp [intOf]; omega⟩
        · replace p1 := decide_eq_false p1
          clear hbi HSN HO HC X1 X2 X3 HB
          go_wp2_with fail
          exact ⟨⟨k + 1, I, by omega, by go_num, HS2.out, HO9, HC9, X19, X29, X39, HB9⟩, by simp [intOf]; omega⟩
    · obtain rfl : k = L.length := by omega
      rw [List.take_length] at hI
      obtain ⟨A7, cap7, rfl, g1, g2, hA7⟩ := own_at (xss := I.map inCells) (by simpa using HO.out) (by intro xs hx; obtain ⟨t, _, rfl⟩ := List.mem_map.1 hx; rfl)
      rw [List.length_map] at g1 ⊢
      have HSr := Lib.hid (r_sorted A7 cap7 I wr hA7 (by omega) g1 g2)
      have HI := Lib.hid hI
      clear hI HO HC hA7
      go_wp2_with fail
      refine HSr.out.mono ?_
      rintro e w8 ⟨v8, O, rfl, hO8, hrise, hmem, hb8⟩
      obtain ⟨A8, cap8, rfl, o1, o2, hA8⟩ := own_in hO8
      have hol : O.length ≤ 2002 := Nat.le_trans (rise_len hrise (fun x hx => (hmem x).1 hx)) hIl
      have hop : 0 < O.length := List.length_pos_of_mem ((hmem fr).2 (by rw [HI.out]; unfold bwA; simp))
      have HO8 := Lib.hid hO8
      have HRi := Lib.hid hrise
      have HMe := Lib.hid (show ∀ x, x ∈ O ↔ x ∈ bwA fr te L from fun x => by rw [← HI.out]; exact hmem x)
      have X18 := Lib.hid (X1.out.step hb8)
      have X28 := Lib.hid (X2.out.step hb8)
      have HB8 := Lib.hid (HB.out.trans (hb8.mono hbz))
      obtain ⟨B8, hB8⟩ : ∃ n, wr.heap.size = n := ⟨_, rfl⟩
      rw [hB8] at HO8
      unfold maxLen at o2
      clear hO8 hrise hmem hb8 X1 X2 X3 HB HSr HI g1 g2 hbz hB8 hA8
      obtain ⟨N, hN⟩ : ∃ N, O.length = N + 1 := ⟨O.length - 1, by omega⟩
      have he : (O.length : Int) - 1 = (N : Int) := by omega
      have hw : IntKind.i64.wrap ((O.length : Int) - 1) = (N : Int) := by rw [he]; exact IntWalk.i64_in _ (by omega)
      have hn1 : (0 : Int) ≤ (N : Int) := by omega
      have hn2 : (N : Int) ≤ (cap8 : Int) := by omega
      obtain ⟨_, _, hSl, _, _, hA9⟩ := own_in HO8.out
      cases hSl
      obtain ⟨b8, o8, rfl, hb8l, _⟩ := in_at hA9 hop
      clear hA9
      go_upto_region 12 with fail
      go_loopw [10, 11, 57] (fun ov bv iv wr => ∃ (i : Nat) (S : List Sp) (was : Bool), i ≤ N ∧ iv = .int .i64 i ∧ bv = .bool was ∧ S.length ≤ i ∧ (was = true → S ≠ []) ∧ Hid (runR D (O.drop i) S was = runR D O [] false) ∧ Hid (wr.ownsRow w.heap.size 27 2 ov S.length (S.map spC).flatten) ∧ Hid (wr.ownsRow B8 3 1 (.slice (some ⟨b8, o8, none⟩) O.length cap8) O.length (O.map (Value.int .i64))) ∧ Hid (Blk wr w.heap.size 25 #[.slice A ts.length capT, .int .i64 first, .slice C cs.length capC]) ∧ Hid (Blk wr (w.heap.size + 1) 25 #[.slice A2 ts2.length capT2, .int .i64 first2, .slice C2 cs2.length capC2]) ∧ Hid (Below w.heap.size w wr)) (fun _ _ iv _ => N - (intOf iv).toNat)
      case atStart => exact ⟨0, [], false, Nat.zero_le _, rfl, rfl, Nat.le_refl _, (fun h => by cases h), Lib.hid rfl, Lib.hid (World.ownsRow_nil _ _ _ _), HO8, X18, X28, HB8⟩
      case round =>
        clear HO8 X18 X28 HB8
        obtain ⟨i, S, was, hi, rfl, rfl, hSl, hwS, HRn, HOv, HOo, X1, X2, HB⟩ := hrel
        have hbz := HB.out.size
        by_cases hlt : i < N
        · obtain ⟨_, _, hq0, _, _, hA⟩ := own_in HOo.out
          cases hq0
          obtain ⟨_, _, hq1, _, c0⟩ := in_at hA (show i < O.length by omega)
          cases hq1
          obtain ⟨_, _, hq2, _, c1⟩ := in_at hA (show i + 1 < O.length by omega)
          cases hq2
          have HDr := Lib.hid (show O.drop i = O[i] :: O.drop (i + 1) from List.drop_eq_getElem_cons (by omega))
          have HDr2 := Lib.hid (show O.drop (i + 1) = O[i + 1] :: O.drop (i + 1 + 1) from List.drop_eq_getElem_cons (by omega))
          obtain ⟨t, ht⟩ : ∃ t, O[i] = t := ⟨_, rfl⟩
          obtain ⟨nx, hnx⟩ : ∃ t, O[i + 1] = t := ⟨_, rfl⟩
          rw [ht] at c0 HDr
          rw [hnx] at c1 HDr2
          clear ht hnx hA
          have HRn2 := Lib.hid (show runR D (O.drop (i + 1)) (if D t = true then (if was = true then spLong S nx else S ++ [(t, nx)]) else S) (D t) = runR D O [] false by rw [← HRn.out, HDr.out, HDr2.out, runR])
          clear HRn HDr HDr2
          have hi1 : (0 : Int) ≤ (i : Int) := by omega
          have hi2 : (i : Int) < (N : Int) := by omega
          have hj1 : (0 : Int) ≤ (i : Int) + 1 := by omega
          have hj2 : (i : Int) + 1 < (O.length : Int) := by omega
          have hj3 : IntKind.i64.wrap ((i : Int) + 1) = (i : Int) + 1 := IntWalk.i64_in _ (by omega)
          have hj4 : ((i : Int) + 1).toNat = i + 1 := by omega
          obtain ⟨x, hx⟩ : ∃ x, tabOf ts first cs t = x := ⟨_, rfl⟩
          obtain ⟨y, hy⟩ : ∃ y, tabOf ts2 first2 cs2 t = y := ⟨_, rfl⟩
          have HDt := Lib.hid (show D t = !decide (x = y) by rw [HD.out, hx, hy])
          have HF1 := Lib.hid (fun (V : World) (hb : Below w.heap.size w V) => (show Calls Try.prog 19 #[.agg #[.slice A ts.length capT, .int .i64 first, .slice C cs.length capC], .int .i64 t] V (fun e w' => e = .returned (tyV x) ∧ Below V.heap.size V w') by rw [← hx]; exact r_TableOf A C capT capC ts first cs t V (HT.out.below hb) HK.out))
          have HF2 := Lib.hid (fun (V : World) (hb : Below w.heap.size w V) => (show Calls Try.prog 19 #[.agg #[.slice A2 ts2.length capT2, .int .i64 first2, .slice C2 cs2.length capC2], .int .i64 t] V (fun e w' => e = .returned (tyV y) ∧ Below V.heap.size V w') by rw [← hy]; exact r_TableOf A2 C2 capT2 capC2 ts2 first2 cs2 t V (HT2.out.below hb) HK2.out))
          clear hx hy
          have heq := run_eq_ty x y
          have f1 := X1.out.cell
          have f1l := X1.out.lt
          have f2 := X2.out.cell
          have f2l := X2.out.lt
          go_upto_region 14 with fail
          refine wp_region_noPanic ?_
          refine wp_region_held_drew (S := fun W' : World => Below wr.heap.size wr W') (by kernel_rfl) (Below.refl _ _).drew (fun hHeld0 => ?_)
          have hHeld : Below wr.heap.size wr wr.drew := hHeld0
          clear hHeld0
          refine wpAnyH_take (i := 0) (v := ?_) rfl (by kernel_rfl) (by kernel_rfl) (by kernel_rfl) (fun _ _ _ h => h) (Or.inl ⟨by rfl, ?_⟩) hHeld ?_
          rotate_left
          · intro wq hSw
            have q1 := fun i => (hSw.cell (p := ⟨w.heap.size, i, none⟩) f1l).trans (f1 i)
            have q2 := fun i => (hSw.cell (p := ⟨w.heap.size + 1, i, none⟩) f2l).trans (f2 i)
            go_simp
            try with_reducible rfl
          try simp only [Act.put, List.getElem_toArray, List.getElem_cons_succ, List.getElem_cons_zero, List.setIfInBounds_toArray, List.set_cons_zero, List.set_cons_succ]
          refine wpAnyH_take (i := 1) (v := ?_) rfl (by kernel_rfl) (by kernel_rfl) (by kernel_rfl) (fun _ _ _ h => h) (Or.inl ⟨by rfl, ?_⟩) hHeld ?_
          rotate_left
          · intro wq hSw
            have q1 := fun i => (hSw.cell (p := ⟨w.heap.size, i, none⟩) f1l).trans (f1 i)
            have q2 := fun i => (hSw.cell (p := ⟨w.heap.size + 1, i, none⟩) f2l).trans (f2 i)
            go_simp
            try with_reducible rfl
          try simp only [Act.put, List.getElem_toArray, List.getElem_cons_succ, List.getElem_cons_zero, List.setIfInBounds_toArray, List.set_cons_zero, List.set_cons_succ]
          refine wpAnyH_take (i := 3) (v := ?_) rfl (by kernel_rfl) (by kernel_rfl) (by kernel_rfl) (fun _ _ _ h => h) (Or.inl ⟨by rfl, ?_⟩) hHeld ?_
          rotate_left
          · intro wq hSw
            have q1 := fun i => (hSw.cell (p := ⟨w.heap.size, i, none⟩) f1l).trans (f1 i)
            have q2 := fun i => (hSw.cell (p := ⟨w.heap.size + 1, i, none⟩) f2l).trans (f2 i)
            go_simp
            try with_reducible rfl
          try simp only [Act.put, List.getElem_toArray, List.getElem_cons_succ, List.getElem_cons_zero, List.setIfInBounds_toArray, List.set_cons_zero, List.set_cons_succ]
          refine wpAnyH_take (i := 4) (v := ?_) rfl (by kernel_rfl) (by kernel_rfl) (by kernel_rfl) (fun _ _ _ h => h) (Or.inl ⟨by rfl, ?_⟩) hHeld ?_
          rotate_left
          · intro wq hSw
            have q1 := fun i => (hSw.cell (p := ⟨w.heap.size, i, none⟩) f1l).trans (f1 i)
            have q2 := fun i => (hSw.cell (p := ⟨w.heap.size + 1, i, none⟩) f2l).trans (f2 i)
            go_simp
            try with_reducible rfl
          try simp only [Act.put, List.getElem_toArray, List.getElem_cons_succ, List.getElem_cons_zero, List.setIfInBounds_toArray, List.set_cons_zero, List.set_cons_succ]
          refine wpAnyH_ready (rs := [2]) (by kernel_rfl) (by simp) ?_
          refine AllReadyH.cons rfl (fun K hK => ?_) AllReadyH.nil
          go_simp
          go_at_call 19
          refine (HF1.out _ (HB.out.trans (hHeld.mono hbz))).mono ?_
          rintro e w8 ⟨rfl, hb8⟩
          have hS8 := hHeld.trans (hb8.mono hHeld.size)
          try go_wp2_with fail
          refine hK.out _ _ hS8 (fun hHeld2 => ?_)
          clear hK K hHeld hb8
          have hHeld := hS8
          clear hS8 hHeld2
          try simp only [Act.put, List.getElem_toArray, List.getElem_cons_succ, List.getElem_cons_zero, List.setIfInBounds_toArray, List.set_cons_zero, List.set_cons_succ]
          refine wpAnyH_ready (rs := [5]) (by kernel_rfl) (by simp) ?_
          refine AllReadyH.cons rfl (fun K hK => ?_) AllReadyH.nil
          go_simp
          go_at_call 19
          refine (HF2.out _ (HB.out.trans (hHeld.mono hbz))).mono ?_
          rintro e w8 ⟨rfl, hb8⟩
          have hS8 := hHeld.trans (hb8.mono hHeld.size)
          try go_wp2_with fail
          refine hK.out _ _ hS8 (fun hHeld2 => ?_)
          clear hK K hHeld hb8
          have hHeld := hS8
          clear hS8 hHeld2
          try simp only [Act.put, List.getElem_toArray, List.getElem_cons_succ, List.getElem_cons_zero, List.setIfInBounds_toArray, List.set_cons_zero, List.set_cons_succ]
          obtain ⟨q, hq⟩ : ∃ q, decide (x = y) = q := ⟨_, rfl⟩
          rw [hq] at heq HDt
          refine wpAnyH_take (i := 6) (v := ?_) rfl (by kernel_rfl) (by kernel_rfl) (by kernel_rfl) (fun _ _ _ h => h) (Or.inl ⟨by rfl, ?_⟩) hHeld ?_
          rotate_left
          · intro wq hSw
            go_simp
            try with_reducible rfl
          try simp only [Act.put, List.getElem_toArray, List.getElem_cons_succ, List.getElem_cons_zero, List.setIfInBounds_toArray, List.set_cons_zero, List.set_cons_succ]
          refine wpAnyH_take (i := 7) (v := ?_) rfl (by kernel_rfl) (by kernel_rfl) (by kernel_rfl) (fun _ _ _ h => h) (Or.inl ⟨by rfl, ?_⟩) hHeld ?_
          rotate_left
          · intro wq hSw
            go_simp
            try with_reducible rfl
          try simp only [Act.put, List.getElem_toArray, List.getElem_cons_succ, List.getElem_cons_zero, List.setIfInBounds_toArray, List.set_cons_zero, List.set_cons_succ]
          refine wpAnyH_done (by kernel_rfl) ?_ _
          refine NoPanic.normal ?_
          have HOv8 := Lib.hid (own_step HOv.out hHeld)
          have HOo8 := Lib.hid (own_step HOo.out hHeld)
          have X18 := Lib.hid (X1.out.step hHeld)
          have X28 := Lib.hid (X2.out.step hHeld)
          have HB8 := Lib.hid (HB.out.trans (hHeld.mono hbz))
          have c08 := (hHeld.cell (p := ⟨b8, o8 + i, none⟩) (cell_lt c0)).trans c0
          have c18 := (hHeld.cell (p := ⟨b8, o8 + (i + 1), none⟩) (cell_lt c1)).trans c1
          clear hHeld HF1 HF2 f1 f1l f2 f2l HOv HOo X1 X2 HB heq c0 c1 hbz
          have hbz := HB8.out.size
          cases q with
          | true =>
            have HDf := Lib.hid (show D t = false by rw [HDt.out]; rfl)
            rw [HDf.out, if_neg Bool.false_ne_true] at HRn2
            clear HDt HDf hq
            go_wp2_with fail
            exact ⟨⟨i + 1, S, false, by omega, by go_num, rfl, by omega, (fun h => by cases h), HRn2, HOv8, HOo8, X18, X28, HB8⟩, by simp [intOf]; omega⟩
          | false =>
            have HDf := Lib.hid (show D t = true by rw [HDt.out]; rfl)
            rw [HDf.out, if_pos rfl] at HRn2
            clear HDt HDf hq
            cases was with
            | true =>
              rw [if_pos rfl] at HRn2
              have hS0 := hwS rfl
              obtain ⟨M, hM⟩ : ∃ M, S.length = M + 1 := ⟨S.length - 1, by have := List.length_pos_iff.2 hS0; omega⟩
              have HSt := Lib.hid (spC_set (l := S) (n := nx) hS0)
              rw [hM, Nat.add_sub_cancel] at HSt
              obtain ⟨gS, capS, rfl, hgb, hgl⟩ := HOv8.out.form (by omega)
              have hst := HOv8.out.stored (M * 2 + 1) (.int .i64 nx)
              have hfz := HOv8.out.frozenAt (M * 2 + 1)
              have hcl := HOv8.out.cellAt (M * 2 + 1) (by omega)
              obtain ⟨u0, hu0⟩ : ∃ u, ((S.map spC).flatten)[M * 2 + 1]? = some u := ⟨_, List.getElem?_eq_getElem (by rw [flat_len (size := 2) _ spC_len, List.length_map]; omega)⟩
              rw [hu0] at hcl
              have hm1 : (S.length : Int) - 1 = (M : Int) := by omega
              have hm2 : IntKind.i64.wrap ((S.length : Int) - 1) = (M : Int) := by rw [hm1]; exact IntWalk.i64_in _ (by omega)
              have hm3 : (0 : Int) ≤ (M : Int) := by omega
              have hm4 : (M : Int) < (S.length : Int) := by omega
              have HO9 := Lib.hid hst.1
              rw [HSt.out.1] at HO9
              have HOo9 := Lib.hid (HOo8.out.kept hst.2 (own_ne HOo8.out HOv8.out (by decide)))
              have X19 := Lib.hid (Blk.grown' hst.2 X18.out (Blk.own_ne X18.out HOv8.out (by decide)))
              have X29 := Lib.hid (Blk.grown' hst.2 X28.out (Blk.own_ne X28.out HOv8.out (by decide)))
              have HB9 := Lib.hid (HB8.out.trans (below_app hbz HOv8.out hst.2))
              have HL9 := Lib.hid HSt.out.2
              clear hst HSt HOv8 HOo8 X18 X28 HB8 hu0
              go_wp2_with fail
              exact ⟨⟨i + 1, spLong S nx, true, by omega, by go_num, rfl, by rw [HL9.out]; omega, (fun _ h => by have := HL9.out; rw [h] at this; simp at this), HRn2, by rw [HL9.out, ← hM]; exact HO9, HOo9, X19, X29, HB9⟩, by simp [intOf]; omega⟩
            | false =>
              rw [if_neg Bool.false_ne_true] at HRn2
              clear hwS
              go_wp2_with (at_builtin; go_loud (refine wpList_append_lies _ rfl _ _ _ rfl w.heap.size 27 i2 _ 2 16 Try.underlying28 his hx0 hx1 hx2 rfl (by omega) u10 S.length _ rfl (HOv8.out.alloc (.cells #[.int .i64 t, .int .i64 nx] 27)) ⟨w8.heap.size, 0, none⟩ 1 1 (spC (t, nx)) rfl rfl (World.news_of_block (cs := (spC (t, nx)).toArray) (t := 27) (fr := (0, 0)) (Blk.new' _ _ _ (by simp))) (by simp [Value.oneCell', spC]) (by omega) (by unfold maxLen; omega) (by omega) (by simp; omega) (w8.heap.size + 1) (by simp) ?_); intro gg cap9 w9 hown9 hgrow hat hlt9)
              have HOa := HOv8.out.alloc (.cells #[.int .i64 t, .int .i64 nx] 27)
              have HO9 := Lib.hid (show w9.ownsRow w.heap.size 27 2 (.slice (some ⟨gg, 0, none⟩) (S.length + 1) cap9) (S ++ [(t, nx)]).length ((S ++ [(t, nx)]).map spC).flatten by rw [spC_flat, List.length_append]; exact hown9)
              have HOb := HOo8.out.alloc (.cells #[.int .i64 t, .int .i64 nx] 27)
              have HOo9 := Lib.hid (HOb.kept hgrow (own_ne HOb HOa (by decide)))
              have X19 := Lib.hid (Blk.grown' hgrow (X18.out.alloc (.cells #[.int .i64 t, .int .i64 nx] 27)) (Blk.own_ne (X18.out.alloc _) HOa (by decide)))
              have X29 := Lib.hid (Blk.grown' hgrow (X28.out.alloc (.cells #[.int .i64 t, .int .i64 nx] 27)) (Blk.own_ne (X28.out.alloc _) HOa (by decide)))
              have hba := HB8.out.alloc hbz (.cells #[.int .i64 t, .int .i64 nx] 27)
              have HB9 := Lib.hid (hba.trans (below_app hba.size HOa hgrow))
              exact ⟨⟨i + 1, S ++ [(t, nx)], true, by omega, by go_num, rfl, by simp; omega, (fun _ => by simp), HRn2, HO9, HOo9, X19, X29, HB9⟩, by simp [intOf]; omega⟩
        · obtain rfl : i = N := by omega
          have HRf := Lib.hid (show S = runR D O [] false by rw [← HRn.out, List.drop_eq_getElem_cons (show i < O.length by omega), List.drop_eq_nil_of_le (by omega)]; rfl)
          rw [HRf.out] at HOv
          go_wp2_with fail
          go_ret
          exact ⟨_, O, rfl, HOv.out, HRi.out, HMe.out, HB.out⟩
end Go.Proofs.Ytbnajjfkkgmflaa
