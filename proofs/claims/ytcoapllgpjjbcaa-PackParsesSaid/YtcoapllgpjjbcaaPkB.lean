/- Walk of pack.Pack. -/
import Derived.Test.YtcoapllgpjjbcaaPkA
import Derived.Test.YtcoapllgpjjbcaaTabA
import Derived.Test.YtcoapllgpjjbcaaTabQ
import Derived.Test.YtcoapllgpjjbcaaWfR
import Derived.Lib.AppendStr
import Derived.Lib.SmallJoins
import Derived.Deep.RegionHeld3
import Derived.Deep.DrawnRows
import Derived.Maps.AppendAt
import Derived.Deep.Cut
import Derived.Deep.CutRange
namespace Go.Proofs.Ytcoapllgpjjbcaa
open Go.RowKit
set_option linter.unusedVariables false
attribute [local go_sem ↓] Go.wp_at_zero Go.wp_at_succ
theorem step_append_str {P : Program} {w : World} {ops : Array Oper} {o : Oper} {a : Act} {K : Act → World → Prop} {Q : Exit → Act → World → Prop} {E : Prop} (hgd : o.guard = none) (sl x : Operand) (t u : TypeId)
    (ho : o.op = .call { callee := .builtin .append, args := #[sl, x], argTypes := #[t, u] })
    (base : Nat) (e : TypeId) (i : TypeInfo) (ht : P.underlying t = some (.slice e)) (hu : P.underlying u = some .string) (hi : P.info? e = some i) (hz : i.zero = some (.int .u8 0))
    (hsize : i.size = 1) (hby : i.bytes = 1)
    (v : Value) (n : Nat) (xs : List Value) (hs : a.eval sl = v) (hown : w.ownsRow base e 1 v n xs) (s : ByteArray) (hx : a.eval x = .string s)
    (h63 : n + s.size ≤ maxLen) (hbytes : n + s.size ≤ 140737488355328) (hbase : base ≤ w.heap.size)
    (h : ∀ v' w', w'.ownsRow base e 1 v' (n + s.size) (xs ++ Lib.strCells s) → w.grownBy w' v.ownBlock → K (a.put o.dst v') w') :
    if Region.wanted o (yielded ops a.tmps) = true then Oper.wp P o a w K Q else E := by
  have hw : Region.wanted o (yielded ops a.tmps) = true := by simp [Region.wanted, hgd]
  rw [if_pos hw]
  obtain ⟨v', w', hr, h2, h3, h4⟩ := Lib.run_append_own_string (P := P) w base t u o.type e i ht hu hi hz hsize hby v n xs hown s h63 hbytes hbase
  unfold Oper.wp execOp
  simp only [ho, resolve, invoke, builtin, Sem.run_bind, Sem.run_pure, Result.andThen_ok, List.map_toArray, List.map_cons, List.map_nil, hs, hx, hr]
  exact h v' w' h2 h3
theorem str_by (s : ByteArray) : Lib.strCells s = (nmB s).map byC := by unfold Lib.strCells nmB; rw [List.map_map]; rfl
theorem abbr_size {t : Ty} (h : isAbbrB t.2.2.data.toList = true) : t.2.2.size ≤ 8 := by
  unfold isAbbrB allB at h
  simp at h
  have : t.2.2.data.toList.length = t.2.2.size := rfl
  simp at this
  omega
/-- a row of one's own that holds these bytes -/
def RowB (base : Nat) (W : World) (v : Value) (L : List Int) : Prop := W.ownsRow base 5 1 v (L.map byC).length (L.map byC)
theorem RowB.add {base : Nat} {W : World} {v : Value} {L M : List Int} {n : Nat} (h : W.ownsRow base 5 1 v n (L.map byC ++ M.map byC)) (hn : n = (L.map byC).length + M.length) : RowB base W v (L ++ M) := by
  have e : (M.map byC).length = M.length := List.length_map _
  unfold RowB; rw [List.map_append, List.length_append, e, ← hn]; exact h
theorem p_putB (base : Nat) (v : Value) (L : List Int) (n : Int) (m : Nat) (w : World) (ho : RowB base w v L) (hb : base ≤ w.heap.size) (hn : 0 ≤ n) (hn2 : n ≤ 18446744073709551615) (hm : m ≤ 8) (hx : L.length ≤ 100000) :
    Calls Try.prog 18 #[v, .int .u64 n, .int .i64 (m : Int)] w fun e w' => ∃ v', e = .returned v' ∧ RowB base w' v' (L ++ beL n m) ∧ PkK base w w' ∧ (∀ g t cs, Blk w g t cs → v.ownBlock ≠ some g → Blk w' g t cs) :=
  (p_put base v (L.map byC) n m w ho hb hn hn2 hm (by rw [List.length_map]; exact hx)).mono fun e w' ⟨v', he, h1, h2, h3⟩ => ⟨v', he, RowB.add h1 (by rw [beL_length]), h2, h3⟩
theorem head_own (base : Nat) (W w0 : World) (a b c d e f : Value) (hb : base ≤ W.heap.size) :
    (W.alloc (.cells (#[a, b, c, d] ++ (#[e, f] ++ Builtin.zeroCells #[.int .u8 0] ((Question.appendCap 6 4 5).cut (w0.tape w0.drawn (Question.appendCap 6 4 5)) - 6))) 5)).drew.ownsRow base 5 1
      (.slice (some ⟨W.heap.size, 0, none⟩) 6 ((Question.appendCap 6 4 5).cut (w0.tape w0.drawn (Question.appendCap 6 4 5)))) 6 [a, b, c, d, e, f] := by
  have h1 : 6 ≤ (Question.appendCap 6 4 5).cut (w0.tape w0.drawn (Question.appendCap 6 4 5)) := grownCap_ge w0 6 4 5
  have h2 : (Question.appendCap 6 4 5).cut (w0.tape w0.drawn (Question.appendCap 6 4 5)) ≤ maxLen := grownCap_le_maxLen w0 6 4 5 (by unfold maxLen; omega)
  refine ⟨rfl, .inr ⟨W.heap.size, _, _, rfl, hb, heap_alloc_new W _, h1, h2, ?_, ?_⟩⟩
  · simp only [Array.size_append, size_zeroCells, List.size_toArray, List.length_cons, List.length_nil]
    omega
  · simp
/-- bytes of one's own as a result, with an error -/
def PkPost (L : List Int) (w : World) (e : Ending) (w' : World) : Prop := ∃ v, e = .returned (.tuple #[v, .int .i64 0]) ∧ w'.ownsRow w.heap.size 5 1 v L.length (L.map byC) ∧ Below w.heap.size w w'
set_option maxRecDepth 100000 in
set_option maxHeartbeats 8000000 in
theorem p_Pack_ok (A C : Option Addr) (capT capC : Nat) (ts : List Ty) (first : Int) (cs : List Ch) (w : World) (H : TabAt w A C capT capC ts cs) (h0 : tabE ts first cs = 0) (K : TabOk ts first cs) :
    Calls Try.prog 6 #[.agg #[.slice A ts.length capT, .int .i64 first, .slice C cs.length capC]] w (PkPost (pkL ts first cs) w) := by
  have m1 := H.mT
  have m2 := H.mC
  have m3 := H.cT
  have m4 := H.cC
  have k1 := K.tmax
  have k2 := K.cmax
  have k3 := K.first0
  have k4 := K.first1
  unfold maxLen at m1 m2
  obtain ⟨i0, hi0, hz0, hz1, hz2⟩ := info_parts info_byte
  have X1 := Lib.hid (Bx.new w #[.slice A ts.length capT, .int .i64 first, .slice C cs.length capC] 25)
  have hb0 : Below w.heap.size w (w.alloc (.cells #[.slice A ts.length capT, .int .i64 first, .slice C cs.length capC] 25)) := (by repeat (first | exact Below.refl _ _ | assumption | apply Below.drew | apply below_drewN | (refine Below.alloc ?_ (by simp; try omega) _) | (refine Below.setCell ?_ (by simp; try omega) _)))
  have HC := Lib.hid (t_Check A C capT capC ts first cs _ (H.below hb0))
  rw [h0] at HC
  have HB := Lib.hid hb0
  clear h0 hb0
  go_enter Try.func6, Try.ntmps6
  go_wp2_with fail
  refine HC.out.mono ?_
  rintro e w1 ⟨rfl, hb⟩
  have x1 := X1.out.step hb
  have hb1 := HB.out.trans (hb.mono HB.out.size)
  have hcs := x1.1
  have hl1 := x1.2.2
  have hcv := Joins.run_convert_bytes_const_at (P := Try.prog) w1 26 5 #[.int .u8 84, .int .u8 90, .int .u8 98, .int .u8 49] 4 4 w1.heap.size rfl Try.underlying26 Try.underlying5
  have hm0 := World.cell?_alloc_mark w1 #[.int .u8 84, .int .u8 90, .int .u8 98, .int .u8 49] 5 (4, 5) 0
  have hm1 := World.cell?_alloc_mark w1 #[.int .u8 84, .int .u8 90, .int .u8 98, .int .u8 49] 5 (4, 5) 1
  have hm2 := World.cell?_alloc_mark w1 #[.int .u8 84, .int .u8 90, .int .u8 98, .int .u8 49] 5 (4, 5) 2
  have hm3 := World.cell?_alloc_mark w1 #[.int .u8 84, .int .u8 90, .int .u8 98, .int .u8 49] 5 (4, 5) 3
  simp at hm0 hm1 hm2 hm3
  clear hb HC X1 HB
  go_upto_region 5 with fail
  have hRow := head_own w1.heap.size ((w1.alloc (.cells #[.int .u8 84, .int .u8 90, .int .u8 98, .int .u8 49] 5 (4, 5))).alloc (.cells #[.int .u8 (ts.length : Int), .int .u8 first] 5)) w1 (.int .u8 84) (.int .u8 90) (.int .u8 98) (.int .u8 49) (.int .u8 (ts.length : Int)) (.int .u8 first) (by simp; omega)
  have hBig : Below w1.heap.size w1 (((w1.alloc (.cells #[.int .u8 84, .int .u8 90, .int .u8 98, .int .u8 49] 5 (4, 5))).alloc (.cells #[.int .u8 (ts.length : Int), .int .u8 first] 5)).alloc (.cells (#[.int .u8 84, .int .u8 90, .int .u8 98, .int .u8 49] ++ (#[.int .u8 (ts.length : Int), .int .u8 first] ++ Builtin.zeroCells #[.int .u8 0] ((Question.appendCap 6 4 5).cut (w1.tape w1.drawn (Question.appendCap 6 4 5)) - 6))) 5)).drew :=
    ((((Below.refl _ _).alloc (Nat.le_refl _) _).alloc (by simp) _).alloc (by simp; omega) _).drew
  simp only [size_alloc] at hRow
  have hR0 : RowB w1.heap.size _ _ ([84, 90, 98, 49, (ts.length : Int), first]) := hRow
  have HR0 := Lib.hid hR0
  have HB0 := Lib.hid hBig
  revert HR0 HB0
  generalize (((w1.alloc (.cells #[.int .u8 84, .int .u8 90, .int .u8 98, .int .u8 49] 5 (4, 5))).alloc (.cells #[.int .u8 (ts.length : Int), .int .u8 first] 5)).alloc (.cells (#[.int .u8 84, .int .u8 90, .int .u8 98, .int .u8 49] ++ (#[.int .u8 (ts.length : Int), .int .u8 first] ++ Builtin.zeroCells #[.int .u8 0] ((Question.appendCap 6 4 5).cut (w1.tape w1.drawn (Question.appendCap 6 4 5)) - 6))) 5)).drew = W2
  intro HR0 HB0
  clear hRow hBig hR0 hcv hm0 hm1 hm2 hm3
  have hz2' := HB0.out.size
  have hx2 := Bx.low x1 HB0.out hl1
  have hcs2 := hx2.1
  have HX2 := Lib.hid hx2
  have HB2 := Lib.hid (hb1.trans (HB0.out.mono hb1.size))
  clear hcs x1 hx2
  go_wp2_with fail
  refine (p_putB w1.heap.size _ _ (cs.length : Int) 2 _ HR0.out hz2' (by omega) (by omega) (by omega) (by simp)).mono ?_
  rintro e W3 ⟨v3, rfl, hR3, hk3, _⟩
  have hx3 := Bx.low HX2.out hk3.1 hl1
  have hcs3 := hx3.1
  have HX3 := Lib.hid hx3
  have HB3 := Lib.hid (HB2.out.trans (hk3.1.mono (by have := hb1.size; omega)))
  have HR3 := Lib.hid (show RowB w1.heap.size W3 v3 (pkH ts first cs) from hR3)
  have hz3 : w1.heap.size ≤ W3.heap.size := Nat.le_trans hz2' hk3.1.size
  have hpl : (pkH ts first cs).length = 8 := by unfold pkH; rw [List.length_append, beL_length]; rfl
  have hnm : ∀ t ∈ ts, t.2.2.size ≤ 8 := fun t ht => abbr_size (K.types t ht).2.2
  have HNM := Lib.hid hnm
  clear hx3 hk3 hR3 hcs2 HX2 HB2 HR0 HB0 hz2' hnm
  go_wp2_with fail
  go_loopw [5, 36] (fun v i wr => ∃ k : Nat, k ≤ ts.length ∧ i = .int .i64 k ∧ RowB w1.heap.size wr v (pkH ts first cs ++ pkTs ts k) ∧ w1.heap.size ≤ wr.heap.size ∧ Bx w.heap.size wr #[.slice A ts.length capT, .int .i64 first, .slice C cs.length capC] ∧ Below w.heap.size w wr) (fun _ i _ => ts.length - (intOf i).toNat)
  case atStart => exact ⟨0, Nat.zero_le _, rfl, by simpa [pkTs] using HR3.out, hz3, HX3.out, HB3.out⟩
  case round =>
    obtain ⟨k, hk, rfl, hR, hzW, hx, hbr⟩ := hrel
    have HR := Lib.hid hR
    have HX := Lib.hid hx
    have HB := Lib.hid hbr
    have hln := pkTs_length HNM.out hk
    have hln2 : (pkH ts first cs ++ pkTs ts k).length ≤ 4000 := by rw [List.length_append]; omega
    by_cases hlt : k < ts.length
    · obtain ⟨b, o, rfl, hb', d0, d1, d2⟩ := ty_at (H.below hbr).T hlt
      obtain ⟨o1, o2, _⟩ := K.types _ (List.getElem_mem hlt)
      have hn8 := HNM.out _ (List.getElem_mem hlt)
      have hsu := pkTs_succ hlt
      obtain ⟨x, hxe⟩ : ∃ x : Ty, ts[k] = x := ⟨_, rfl⟩
      rw [hxe] at d0 d1 d2 o1 o2 hsu hn8
      have HSU := Lib.hid hsu
      have kx := Blk.new wr #[.int .i64 x.1, .bool x.2.1, .string x.2.2] 50
      have kxc := kx.cell
      have KX := Lib.hid kx
      obtain ⟨L1, hL1⟩ : ∃ L, pkH ts first cs ++ pkTs ts k = L := ⟨_, rfl⟩
      have HL1 := Lib.hid hL1
      rw [hL1] at HR hln2
      have HRa := Lib.hid (show RowB w1.heap.size (wr.alloc (.cells #[.int .i64 x.1, .bool x.2.1, .string x.2.2] 50)) u5 L1 from World.ownsRow.alloc HR.out _)
      clear hxe hR hx hbr hsu hL1 kx kxc
      go_wp2_with fail
      refine (p_putB w1.heap.size _ _ (x.1 + 2147483648) 4 _ HRa.out (by simp; omega) (by omega) (by omega) (by omega) (by omega)).mono ?_
      rintro e w3 ⟨v3, rfl, hR3, hk3, _⟩
      have hk3' := (PkK.below ((Below.refl wr.heap.size wr).alloc (Nat.le_refl _) (.cells #[.int .i64 x.1, .bool x.2.1, .string x.2.2] 50)) hzW).trans hk3
      have kx3 := Lib.hid (hk3.2 _ _ _ (by decide) KX.out)
      have kxc := kx3.out.cell
      have kxl := kx3.out.lt
      obtain ⟨L3, hL3⟩ : ∃ L, L1 ++ beL (x.1 + 2147483648) 4 = L := ⟨_, rfl⟩
      have HL3 := Lib.hid hL3
      have hl3 : L3.length ≤ 4004 := by rw [← hL3, List.length_append, beL_length]; omega
      have hl3' : (L3.map byC).length ≤ 4004 := by rw [List.length_map]; exact hl3
      rw [hL3] at hR3
      have HR3 := Lib.hid hR3
      have HK3 := Lib.hid hk3'
      have hz3 : w1.heap.size ≤ w3.heap.size := Nat.le_trans hzW hk3'.1.size
      clear hL3 hR3 hk3 hk3'
      cases hsv : x.2.1 with
      | true =>
        rw [hsv] at kx3 kxc
        have hLn : pkH ts first cs ++ pkTs ts (k + 1) = L3 ++ ([1, (x.2.2.size : Int)] ++ nmB x.2.2) := by
          rw [HSU.out, ← List.append_assoc, HL1.out, ← HL3.out, pkT, hsv]
          simp [svB, List.append_assoc]
        have HLn := Lib.hid hLn
        have hnl := nmB_length x.2.2
        have HNL := Lib.hid hnl
        have hzx : wr.heap.size < w3.heap.size := kxl
        clear hsv hLn hnl
        have hS : (∀ i, w3.drew.cell? ⟨wr.heap.size, i, none⟩ = (#[.int .i64 x.1, .bool true, .string x.2.2] : Array Value)[i]?) ∧ wr.heap.size < w3.drew.heap.size ∧ PkK w1.heap.size w3 w3.drew := ⟨kx3.out.cell, kx3.out.lt, PkK.below (Below.refl _ _).drew hz3⟩
        have hSa : (∀ i, (w3.alloc (.cells #[.int .u8 1, .int .u8 (x.2.2.size : Int)] 5)).drew.cell? ⟨wr.heap.size, i, none⟩ = (#[.int .i64 x.1, .bool true, .string x.2.2] : Array Value)[i]?) ∧ wr.heap.size < (w3.alloc (.cells #[.int .u8 1, .int .u8 (x.2.2.size : Int)] 5)).drew.heap.size ∧ PkK w1.heap.size w3 (w3.alloc (.cells #[.int .u8 1, .int .u8 (x.2.2.size : Int)] 5)).drew := ⟨(kx3.out.alloc _).drew.cell, (kx3.out.alloc _).drew.lt, PkK.below ((Below.refl _ _).alloc (Nat.le_refl _) _).drew hz3⟩
        have HRd := Lib.hid (show RowB w1.heap.size (w3.alloc (.cells #[.int .u8 1, .int .u8 (x.2.2.size : Int)] 5)).drew v3 L3 from own_step (World.ownsRow.alloc HR3.out _) (Below.refl _ _).drew)
        have hws : IntKind.u8.wrap (x.2.2.size : Int) = (x.2.2.size : Int) := IntWalk.u8_in _ (by omega)
        have hS0 := hS
        go_upto_region 13 with fail
        go_region_held3 (fun W' => (∀ i, W'.cell? ⟨wr.heap.size, i, none⟩ = (#[.int .i64 x.1, .bool true, .string x.2.2] : Array Value)[i]?) ∧ wr.heap.size < W'.heap.size ∧ PkK w1.heap.size w3 W')
          (first | (with_reducible exact hS) | (with_reducible exact hS9) | (with_reducible exact hS8) | (with_reducible exact hSa) | (with_reducible assumption))
          (first | (refine step_append_lies _ (by rfl) _ _ _ (by rfl) w1.heap.size 5 i0 _ 1 1 Try.underlying26 hi0 hz0 hz1 hz2 rfl (by omega) v3 (L3.map byC).length _ (by rfl) HRd.out ⟨w3.heap.size, 0, none⟩ 2 2 [byC 1, byC (x.2.2.size : Int)] (by rfl) (by rfl) (World.news_of_block (cs := #[byC 1, byC (x.2.2.size : Int)]) (t := 5) (fr := (0, 0)) (heap_alloc_new w3 _)) (by simp [Value.oneCell', byC]) (by omega) (by unfold maxLen; omega) (by omega) (by simp; omega) (w3.heap.size + 1) (by simp) ?_; intro gg cap8 w8 hown8 hgrow8 hat8 hlt8; have hk8 : PkK w1.heap.size w3 w8 := hSa.2.2.trans (PkK.app HRd.out (by simp; omega) hgrow8); have hS8 : (∀ i, w8.cell? ⟨wr.heap.size, i, none⟩ = (#[.int .i64 x.1, .bool true, .string x.2.2] : Array Value)[i]?) ∧ wr.heap.size < w8.heap.size ∧ PkK w1.heap.size w3 w8 := ⟨(hk8.2 _ _ _ (by decide) kx3.out).cell, (hk8.2 _ _ _ (by decide) kx3.out).lt, hk8⟩) | (refine step_append_str (by rfl) _ _ _ _ (by rfl) w1.heap.size 5 i0 Try.underlying26 Try.underlying9 hi0 hz0 hz1 hz2 (.slice (some ⟨gg, 0, none⟩) ((L3.map byC).length + 2) cap8) ((L3.map byC).length + 2) _ (by rfl) hown8 x.2.2 (by rfl) (by unfold maxLen; omega) (by omega) (by have := hk8.1.size; omega) ?_; intro v9 w9 hown9 hgrow9; have hk9 : PkK w1.heap.size w3 w9 := hk8.trans (PkK.app hown8 (by have := hk8.1.size; omega) hgrow9); have hS9 : (∀ i, w9.cell? ⟨wr.heap.size, i, none⟩ = (#[.int .i64 x.1, .bool true, .string x.2.2] : Array Value)[i]?) ∧ wr.heap.size < w9.heap.size ∧ PkK w1.heap.size w3 w9 := ⟨(hk9.2 _ _ _ (by decide) kx3.out).cell, (hk9.2 _ _ _ (by decide) kx3.out).lt, hk9⟩) | fail)
        rename_i hX
        clear hX
        have hR9 : RowB w1.heap.size w9 v9 (L3 ++ ([1, (x.2.2.size : Int)] ++ nmB x.2.2)) := RowB.add (by rw [List.map_append, ← List.append_assoc, ← str_by]; exact hown9) (by rw [List.length_append, HNL.out]; simp; omega)
        have HR9 := Lib.hid (show RowB w1.heap.size w9 v9 (pkH ts first cs ++ pkTs ts (k + 1)) by rw [HLn.out]; exact hR9)
        have HK9 := Lib.hid (HK3.out.trans hk9)
        clear hR9 hown9 hown8 hgrow8 hgrow9 hS hSa hS0 hS8 hS9 hk8 hk9 kxc
        go_wp2_with fail
        exact ⟨⟨k + 1, by omega, by go_num, HR9.out, Nat.le_trans hzW HK9.out.1.size, Bx.low HX.out HK9.out.1 hl1, HB.out.trans (HK9.out.1.mono (by have := hb1.size; omega))⟩, by simp [intOf]; omega⟩
      | false =>
        rw [hsv] at kx3 kxc
        have hLn : pkH ts first cs ++ pkTs ts (k + 1) = L3 ++ ([0, (x.2.2.size : Int)] ++ nmB x.2.2) := by
          rw [HSU.out, ← List.append_assoc, HL1.out, ← HL3.out, pkT, hsv]
          simp [svB, List.append_assoc]
        have HLn := Lib.hid hLn
        have hnl := nmB_length x.2.2
        have HNL := Lib.hid hnl
        have hzx : wr.heap.size < w3.heap.size := kxl
        clear hsv hLn hnl
        have hS : (∀ i, w3.drew.cell? ⟨wr.heap.size, i, none⟩ = (#[.int .i64 x.1, .bool false, .string x.2.2] : Array Value)[i]?) ∧ wr.heap.size < w3.drew.heap.size ∧ PkK w1.heap.size w3 w3.drew := ⟨kx3.out.cell, kx3.out.lt, PkK.below (Below.refl _ _).drew hz3⟩
        have hSa : (∀ i, (w3.alloc (.cells #[.int .u8 0, .int .u8 (x.2.2.size : Int)] 5)).drew.cell? ⟨wr.heap.size, i, none⟩ = (#[.int .i64 x.1, .bool false, .string x.2.2] : Array Value)[i]?) ∧ wr.heap.size < (w3.alloc (.cells #[.int .u8 0, .int .u8 (x.2.2.size : Int)] 5)).drew.heap.size ∧ PkK w1.heap.size w3 (w3.alloc (.cells #[.int .u8 0, .int .u8 (x.2.2.size : Int)] 5)).drew := ⟨(kx3.out.alloc _).drew.cell, (kx3.out.alloc _).drew.lt, PkK.below ((Below.refl _ _).alloc (Nat.le_refl _) _).drew hz3⟩
        have HRd := Lib.hid (show RowB w1.heap.size (w3.alloc (.cells #[.int .u8 0, .int .u8 (x.2.2.size : Int)] 5)).drew v3 L3 from own_step (World.ownsRow.alloc HR3.out _) (Below.refl _ _).drew)
        have hws : IntKind.u8.wrap (x.2.2.size : Int) = (x.2.2.size : Int) := IntWalk.u8_in _ (by omega)
        have hS0 := hS
        go_upto_region 13 with fail
        go_region_held3 (fun W' => (∀ i, W'.cell? ⟨wr.heap.size, i, none⟩ = (#[.int .i64 x.1, .bool false, .string x.2.2] : Array Value)[i]?) ∧ wr.heap.size < W'.heap.size ∧ PkK w1.heap.size w3 W')
          (first | (with_reducible exact hS) | (with_reducible exact hS9) | (with_reducible exact hS8) | (with_reducible exact hSa) | (with_reducible assumption))
          (first | (refine step_append_lies _ (by rfl) _ _ _ (by rfl) w1.heap.size 5 i0 _ 1 1 Try.underlying26 hi0 hz0 hz1 hz2 rfl (by omega) v3 (L3.map byC).length _ (by rfl) HRd.out ⟨w3.heap.size, 0, none⟩ 2 2 [byC 0, byC (x.2.2.size : Int)] (by rfl) (by rfl) (World.news_of_block (cs := #[byC 0, byC (x.2.2.size : Int)]) (t := 5) (fr := (0, 0)) (heap_alloc_new w3 _)) (by simp [Value.oneCell', byC]) (by omega) (by unfold maxLen; omega) (by omega) (by simp; omega) (w3.heap.size + 1) (by simp) ?_; intro gg cap8 w8 hown8 hgrow8 hat8 hlt8; have hk8 : PkK w1.heap.size w3 w8 := hSa.2.2.trans (PkK.app HRd.out (by simp; omega) hgrow8); have hS8 : (∀ i, w8.cell? ⟨wr.heap.size, i, none⟩ = (#[.int .i64 x.1, .bool false, .string x.2.2] : Array Value)[i]?) ∧ wr.heap.size < w8.heap.size ∧ PkK w1.heap.size w3 w8 := ⟨(hk8.2 _ _ _ (by decide) kx3.out).cell, (hk8.2 _ _ _ (by decide) kx3.out).lt, hk8⟩) | (refine step_append_str (by rfl) _ _ _ _ (by rfl) w1.heap.size 5 i0 Try.underlying26 Try.underlying9 hi0 hz0 hz1 hz2 (.slice (some ⟨gg, 0, none⟩) ((L3.map byC).length + 2) cap8) ((L3.map byC).length + 2) _ (by rfl) hown8 x.2.2 (by rfl) (by unfold maxLen; omega) (by omega) (by have := hk8.1.size; omega) ?_; intro v9 w9 hown9 hgrow9; have hk9 : PkK w1.heap.size w3 w9 := hk8.trans (PkK.app hown8 (by have := hk8.1.size; omega) hgrow9); have hS9 : (∀ i, w9.cell? ⟨wr.heap.size, i, none⟩ = (#[.int .i64 x.1, .bool false, .string x.2.2] : Array Value)[i]?) ∧ wr.heap.size < w9.heap.size ∧ PkK w1.heap.size w3 w9 := ⟨(hk9.2 _ _ _ (by decide) kx3.out).cell, (hk9.2 _ _ _ (by decide) kx3.out).lt, hk9⟩) | fail)
        rename_i hX
        clear hX
        have hR9 : RowB w1.heap.size w9 v9 (L3 ++ ([0, (x.2.2.size : Int)] ++ nmB x.2.2)) := RowB.add (by rw [List.map_append, ← List.append_assoc, ← str_by]; exact hown9) (by rw [List.length_append, HNL.out]; simp; omega)
        have HR9 := Lib.hid (show RowB w1.heap.size w9 v9 (pkH ts first cs ++ pkTs ts (k + 1)) by rw [HLn.out]; exact hR9)
        have HK9 := Lib.hid (HK3.out.trans hk9)
        clear hR9 hown9 hown8 hgrow8 hgrow9 hS hSa hS0 hS8 hS9 hk8 hk9 kxc
        go_wp2_with fail
        exact ⟨⟨k + 1, by omega, by go_num, HR9.out, Nat.le_trans hzW HK9.out.1.size, Bx.low HX.out HK9.out.1 hl1, HB.out.trans (HK9.out.1.mono (by have := hb1.size; omega))⟩, by simp [intOf]; omega⟩
    · obtain rfl : k = ts.length := by omega
      obtain ⟨LA, hLA⟩ : ∃ L, pkH ts first cs ++ pkTs ts ts.length = L := ⟨_, rfl⟩
      have HLA := Lib.hid hLA
      rw [hLA] at HR hln2
      have hx0 := hx.1
      clear hR hx hbr hLA
      go_wp2_with fail
      go_loopw [5, 63] (fun v i wr => ∃ k : Nat, k ≤ cs.length ∧ i = .int .i64 k ∧ RowB w1.heap.size wr v (LA ++ pkCs cs k) ∧ w1.heap.size ≤ wr.heap.size ∧ Bx w.heap.size wr #[.slice A ts.length capT, .int .i64 first, .slice C cs.length capC] ∧ Below w.heap.size w wr) (fun _ i _ => cs.length - (intOf i).toNat)
      case atStart => exact ⟨0, Nat.zero_le _, rfl, by simpa [pkCs] using HR.out, hzW, HX.out, HB.out⟩
      case round =>
        obtain ⟨k, hk, rfl, hR, hzW, hx, hbr⟩ := hrel
        have HR := Lib.hid hR
        have HX := Lib.hid hx
        have HB := Lib.hid hbr
        have hln := pkCs_length hk
        have hln3 : (LA ++ pkCs cs k).length ≤ 14000 := by rw [List.length_append]; omega
        by_cases hlt : k < cs.length
        · obtain ⟨b, o, rfl, hb', d0, d1⟩ := ch_at (H.below hbr).C hlt
          obtain ⟨c1, c2, c3, c4⟩ := K.range _ (List.getElem_mem hlt)
          have hsu := pkCs_succ hlt
          obtain ⟨a, ha⟩ : ∃ a, cs[k].1 = a := ⟨_, rfl⟩
          obtain ⟨t, ht⟩ : ∃ a, cs[k].2 = a := ⟨_, rfl⟩
          have hpc : pkC cs[k] = beL (a + 9223372036854775808) 8 ++ [t] := by rw [pkC, ha, ht]
          rw [ha] at d0 c1 c2
          rw [ht] at d1 c3 c4
          rw [hpc] at hsu
          obtain ⟨L1, hL1⟩ : ∃ L, LA ++ pkCs cs k = L := ⟨_, rfl⟩
          have HSU := Lib.hid (show LA ++ pkCs cs (k + 1) = (L1 ++ beL (a + 9223372036854775808) 8) ++ [t] by rw [hsu, ← hL1]; simp [List.append_assoc])
          rw [hL1] at HR hln3
          clear hpc hsu hL1 ha ht hR hx hbr
          obtain ⟨q, hq⟩ : ∃ q, IntKind.u64.wrap a = q := ⟨_, rfl⟩
          have hq2 : IntKind.u64.wrap (q + 9223372036854775808) = a + 9223372036854775808 := by rw [← hq, IntKind.wrap_u64, IntKind.wrap_u64]; omega
          have hq3 : IntKind.u8.wrap t = t := IntWalk.u8_in _ (by omega)
          have kx := Blk.new wr #[.int .i64 a, .int .i64 t] 52
          have HRa := Lib.hid (show RowB w1.heap.size (wr.alloc (.cells #[.int .i64 a, .int .i64 t] 52)).drew u5 L1 from own_step (World.ownsRow.alloc HR.out _) (Below.refl _ _).drew)
          obtain ⟨w3, hw3⟩ : ∃ x, wr.alloc (.cells #[.int .i64 a, .int .i64 t] 52) = x := ⟨_, rfl⟩
          have HK3 := Lib.hid (show PkK w1.heap.size wr w3 by rw [← hw3]; exact PkK.below ((Below.refl _ _).alloc (Nat.le_refl _) _) hzW)
          rw [hw3] at kx HRa
          have hz3 : w1.heap.size ≤ w3.heap.size := Nat.le_trans hzW HK3.out.1.size
          have hS : (∀ i, w3.drew.cell? ⟨wr.heap.size, i, none⟩ = (#[.int .i64 a, .int .i64 t] : Array Value)[i]?) ∧ wr.heap.size < w3.drew.heap.size ∧ PkK w1.heap.size w3 w3.drew := ⟨kx.drew.cell, kx.drew.lt, PkK.below (Below.refl _ _).drew hz3⟩
          have HW3 := Lib.hid hw3
          have KX := Lib.hid kx
          clear hw3 kx
          go_upto_region 18 with fail
          rw [HW3.out]
          have hSB : (∀ i, (w3.alloc (.cells #[.int .u8 t] 5)).drew.cell? ⟨wr.heap.size, i, none⟩ = (#[.int .i64 a, .int .i64 t] : Array Value)[i]?) ∧ wr.heap.size < (w3.alloc (.cells #[.int .u8 t] 5)).drew.heap.size ∧ PkK w1.heap.size w3 (w3.alloc (.cells #[.int .u8 t] 5)).drew := ⟨(KX.out.alloc _).drew.cell, (KX.out.alloc _).drew.lt, PkK.below ((Below.refl _ _).alloc (Nat.le_refl _) _).drew hz3⟩
          have HRb := Lib.hid (show RowB w1.heap.size (w3.alloc (.cells #[.int .u8 t] 5)).drew u5 L1 from own_step (World.ownsRow.alloc (show w3.ownsRow _ _ _ _ _ _ from HRa.out) _) (Below.refl _ _).drew)
          have PA := Lib.hid (show Calls Try.prog 18 #[u5, .int .u64 (a + 9223372036854775808), .int .i64 8] (w3.drew) _ from p_putB w1.heap.size u5 L1 (a + 9223372036854775808) 8 w3.drew HRa.out hz3 (by omega) (by omega) (by omega) (by omega))
          have PB := Lib.hid (show Calls Try.prog 18 #[u5, .int .u64 (a + 9223372036854775808), .int .i64 8] ((w3.alloc (.cells #[.int .u8 t] 5)).drew) _ from p_putB w1.heap.size u5 L1 (a + 9223372036854775808) 8 (w3.alloc (.cells #[.int .u8 t] 5)).drew HRb.out (by simp; omega) (by omega) (by omega) (by omega) (by omega))
          have BB := Lib.hid (show Blk (w3.alloc (.cells #[.int .u8 t] 5)).drew w3.heap.size 5 #[byC t] from Blk.new w3 _ _)
          have NB := Lib.hid (show u5.ownBlock ≠ some w3.heap.size from fun e => by have := (own_blk (show w3.ownsRow _ _ _ _ _ _ from HRa.out) e).2; omega)
          go_region_held3 (fun W' => (∀ i, W'.cell? ⟨wr.heap.size, i, none⟩ = (#[.int .i64 a, .int .i64 t] : Array Value)[i]?) ∧ wr.heap.size < W'.heap.size ∧ PkK w1.heap.size w3 W')
            (first | (with_reducible exact hS) | (with_reducible exact hS5) | (with_reducible exact hS4) | (with_reducible exact hSb) | (with_reducible exact hSB) | (with_reducible assumption))
            (first | (go_at_call 18; ((with_reducible refine PA.out.mono ?_); rintro e w4 ⟨v4, rfl, hR4, hk4, hg4⟩; have hk4' := hS.2.2.trans hk4; have hS4 : (∀ i, w4.cell? ⟨wr.heap.size, i, none⟩ = (#[.int .i64 a, .int .i64 t] : Array Value)[i]?) ∧ wr.heap.size < w4.heap.size ∧ PkK w1.heap.size w3 w4 := ⟨(hk4.2 _ _ _ (by decide) KX.out.drew).cell, (hk4.2 _ _ _ (by decide) KX.out.drew).lt, hk4'⟩; have hSb : (∀ i, (w4.alloc (.cells #[.int .u8 t] 5)).cell? ⟨wr.heap.size, i, none⟩ = (#[.int .i64 a, .int .i64 t] : Array Value)[i]?) ∧ wr.heap.size < (w4.alloc (.cells #[.int .u8 t] 5)).heap.size ∧ PkK w1.heap.size w3 (w4.alloc (.cells #[.int .u8 t] 5)) := ⟨((hk4.2 _ _ _ (by decide) KX.out.drew).alloc _).cell, ((hk4.2 _ _ _ (by decide) KX.out.drew).alloc _).lt, hk4'.trans (PkK.below ((Below.refl _ _).alloc (Nat.le_refl _) _) (Nat.le_trans hz3 hk4'.1.size))⟩; have hzz : w1.heap.size ≤ w4.heap.size := Nat.le_trans hz3 hk4'.1.size)) | (go_at_call 18; ((with_reducible refine PB.out.mono ?_); rintro e w6 ⟨v6, rfl, hR4, hk4, hg4⟩; have hk4' := hSB.2.2.trans hk4; have hS4 : (∀ i, w6.cell? ⟨wr.heap.size, i, none⟩ = (#[.int .i64 a, .int .i64 t] : Array Value)[i]?) ∧ wr.heap.size < w6.heap.size ∧ PkK w1.heap.size w3 w6 := ⟨(hk4.2 _ _ _ (by decide) (KX.out.alloc _).drew).cell, (hk4.2 _ _ _ (by decide) (KX.out.alloc _).drew).lt, hk4'⟩; have hB6 := hg4 _ _ _ BB.out NB.out; have hzz : w1.heap.size ≤ w6.heap.size := Nat.le_trans hz3 hk4'.1.size)) | (refine step_append_lies _ (by rfl) _ _ _ (by rfl) w1.heap.size 5 i0 _ 1 1 Try.underlying26 hi0 hz0 hz1 hz2 rfl (by omega) v4 ((L1 ++ beL (a + 9223372036854775808) 8).map byC).length _ (by rfl) (World.ownsRow.alloc hR4 _) ⟨w4.heap.size, 0, none⟩ 1 1 [byC t] (by rfl) (by rfl) (World.news_of_block (cs := #[byC t]) (t := 5) (fr := (0, 0)) (heap_alloc_new w4 _)) (by simp [Value.oneCell', byC]) (by omega) (by unfold maxLen; simp [beL_length]; omega) (by simp [beL_length]; omega) (by simp; omega)  (w4.heap.size + 1) (by simp) ?_; intro gg cap8 w5 hown5 hgrow5 hat5 hlt5; have hk5 : PkK w1.heap.size w3 w5 := hSb.2.2.trans (PkK.app (World.ownsRow.alloc hR4 _) (by simp; omega) hgrow5); have hS5 : (∀ i, w5.cell? ⟨wr.heap.size, i, none⟩ = (#[.int .i64 a, .int .i64 t] : Array Value)[i]?) ∧ wr.heap.size < w5.heap.size ∧ PkK w1.heap.size w3 w5 := ⟨(hk5.2 _ _ _ (by decide) KX.out).cell, (hk5.2 _ _ _ (by decide) KX.out).lt, hk5⟩) | (refine step_append_lies _ (by rfl) _ _ _ (by rfl) w1.heap.size 5 i0 _ 1 1 Try.underlying26 hi0 hz0 hz1 hz2 rfl (by omega) v6 ((L1 ++ beL (a + 9223372036854775808) 8).map byC).length _ (by rfl) hR4 ⟨w3.heap.size, 0, none⟩ 1 1 [byC t] (by rfl) (by rfl) (World.news_of_block (cs := #[byC t]) (t := 5) (fr := (0, 0)) hB6) (by simp [Value.oneCell', byC]) (by omega) (by unfold maxLen; simp [beL_length]; omega) (by simp [beL_length]; omega) hzz  w6.heap.size rfl ?_; intro gg cap8 w5 hown5 hgrow5 hat5 hlt5; have hk5 : PkK w1.heap.size w3 w5 := hk4'.trans (PkK.app hR4 hzz hgrow5); have hS5 : (∀ i, w5.cell? ⟨wr.heap.size, i, none⟩ = (#[.int .i64 a, .int .i64 t] : Array Value)[i]?) ∧ wr.heap.size < w5.heap.size ∧ PkK w1.heap.size w3 w5 := ⟨(hk5.2 _ _ _ (by decide) KX.out).cell, (hk5.2 _ _ _ (by decide) KX.out).lt, hk5⟩) | fail)
          all_goals
            rename_i hX
            clear hX
            have hR9 : RowB w1.heap.size w5 _ ((L1 ++ beL (a + 9223372036854775808) 8) ++ [t]) := RowB.add (M := [t]) hown5 (by simp)
            have HR9 := Lib.hid (show RowB w1.heap.size w5 _ (LA ++ pkCs cs (k + 1)) by rw [HSU.out]; exact hR9)
            have HK9 := Lib.hid (HK3.out.trans hk5)
            clear hR9 hown5 hgrow5 hR4 hk4 hk4' hk5 hS hS4 hS5 hSB hg4
            have hR10 := HR9.out
            simp only [List.length_map, List.length_append] at hR10
            have HR10 := Lib.hid hR10
            clear hR10
            go_wp2_with fail
            exact ⟨⟨k + 1, by omega, by go_num, HR10.out, Nat.le_trans hzW HK9.out.1.size, Bx.low HX.out HK9.out.1 hl1, HB.out.trans (HK9.out.1.mono (by have := hb1.size; omega))⟩, by simp [intOf]; omega⟩
        · obtain rfl : k = cs.length := by omega
          have HE := Lib.hid (show pkL ts first cs = LA ++ pkCs cs cs.length by rw [pkL, HLA.out])
          clear hR hx hbr
          go_wp2_with fail
          go_ret2
          exact ⟨u5, rfl, by rw [HE.out]; have := HR.out; unfold RowB at this; rw [List.length_map] at this; exact this.mono hb1.size, HB.out⟩
end Go.Proofs.Ytcoapllgpjjbcaa
