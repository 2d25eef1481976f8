/- Walk of names.All. -/
import Derived.Test.YthkiohemolndeaaGreatDoorNaQ
import Derived.Test.YthkiohemolndeaaGreatDoorIter
import Derived.Maps.RangeWalk
import Derived.Lib.OwnBridge
import Derived.Deep.AppendLies
import Derived.RegionTactic
import Derived.Deep.Onto
namespace Go.Proofs.YthkiohemolndeaaGreatDoor
open Go.RowKit
set_option linter.unusedVariables false
set_option linter.unusedSimpArgs false
attribute [local go_sem ↓] Go.wp_at_zero Go.wp_at_succ
theorem PlAt.keep {w w' : World} {g bz bl nz nl : Nat} {zs : List ZoT} {ls : List LkT} {row : Option Nat} (h : PlAt w g bz bl nz nl zs ls) (hg : w.grownBy w' row) (h1 : row ≠ some g) (h2 : row ≠ some bz) (h3 : row ≠ some bl) : PlAt w' g bz bl nz nl zs ls :=
  ⟨fun i => (cell_grown hg h.2.1 (fun e => h1 e.symm)).trans (h.1 i), Nat.lt_of_lt_of_le h.2.1 hg.size, h.2.2.1.kept hg (fun e => h2 e.symm), h.2.2.2.kept hg (fun e => h3 e.symm)⟩
theorem PlAt.lts {w : World} {g bz bl nz nl : Nat} {zs : List ZoT} {ls : List LkT} (h : PlAt w g bz bl nz nl zs ls) : g < w.heap.size ∧ bz < w.heap.size ∧ bl < w.heap.size := ⟨h.2.1, h.2.2.1.lt, h.2.2.2.lt⟩
theorem grown_none {w w' : World} (hb : Below w.heap.size w w') : w.grownBy w' none := ⟨hb.os, hb.tape, hb.output, hb.size, fun k hk _ => hb.block k hk⟩
theorem own_iter {w : World} {H : Type} {P : Program} {k : TypeId} {R : Value → Option (DataW H × List MemPlace)} {b r n m base sz : Nat} {D : DataW H} {left : Lit → Bool} {cnt : Nat} {e : TypeId} {v : Value} {xs : List Value} (h : w.ranges P k R b r n D left cnt) (ho : w.ownsRow base e sz v m xs) : v.ownBlock ≠ some r ∧ v.ownBlock ≠ some b := by
  obtain ⟨es, clock, since, seen, c0, hb, _, _, _, hr, _⟩ := h
  rcases ho.2 with ⟨rfl, _⟩ | ⟨g, cap, cur, rfl, _, hg, _⟩
  · exact ⟨by simp [Value.ownBlock], by simp [Value.ownBlock]⟩
  · refine ⟨fun e => ?_, fun e => ?_⟩
    · have : g = r := by simpa [Value.ownBlock] using e
      rw [this, hr] at hg; cases hg
    · have : g = b := by simpa [Value.ownBlock] using e
      rw [this, hb] at hg; cases hg
theorem zs_size {zs : List ZoT} (h : zs.Pairwise (fun a b => a.name ≠ b.name)) : Maps.size (mapOf (zPr zs)) = zs.length := by rw [mapOf_size (zPr_pair h)]; simp [zPr]
theorem info_Str0' : (Tryz.prog.info? 9).map (fun i => (i.zero, i.size, i.bytes)) = some (some (.string ⟨#[]⟩), 1, 16) := by kernel_rfl
open Go.Sort in
theorem own_putS {w : World} {B g cap q n : Nat} {zs ys : List Bs} {os : Array Obj} (h : w.ownsRow B 9 1 (.slice (some ⟨g, 0, none⟩) n cap) n (zs.map encStr)) (hy : ys.length = n) :
    (grow (putRow encStr (Sort.ahead w q) g 0 ys.toArray) os).ownsRow B 9 1 (.slice (some ⟨g, 0, none⟩) ys.length cap) ys.length (ys.map encStr) := by
  have h1 := Lib.ownsRow_putRow (q := q) h hy (Nat.le_refl _)
  rw [List.take_of_length_le (by omega)] at h1
  rw [hy]
  refine own_step h1 ⟨rfl, rfl, rfl, ?_, fun j hj => ?_⟩
  · show _ ≤ (_ ++ os).size; rw [Array.size_append]; omega
  · show (_ ++ os)[j]? = _
    exact Array.getElem?_append_left hj
open Go.Sort in
theorem below_putS {w : World} {B g q : Nat} {d : Array Bs} {os : Array Obj} (hg : B ≤ g) (hB : B ≤ w.heap.size) : Below B w (grow (putRow encStr (Sort.ahead w q) g 0 d) os) := by
  have b1 := Lib.below_putRow (q := q) (d := d) (enc := encStr) (Below.refl B w) hg
  refine ⟨b1.os, b1.tape, b1.output, Nat.le_trans b1.size (by show _ ≤ (_ ++ os).size; rw [Array.size_append]; omega), fun j hj => ?_⟩
  rw [← b1.block j hj]
  show (_ ++ os)[j]? = _
  exact Array.getElem?_append_left (Nat.lt_of_lt_of_le (Nat.lt_of_lt_of_le hj hB) b1.size)
open Go.Sort in
theorem s_SortS (blk cap : Nat) (ss : List Bs) (w : World) (hH : Holds encStr w blk 0 ss.toArray) (hblk : blk < w.heap.size) (hsz : ss.length < 4611686018427387904) :
    Calls Tryz.prog 20 #[.slice (some ⟨blk, 0, none⟩) ss.length cap] w fun e w' => e = .returned (.tuple #[]) ∧ ∃ n os, w' = grow (putRow encStr (Sort.ahead w n) blk 0 (ss.mergeSort fun x y => decide (x ≤ y)).toArray) os :=
  AnyM.slices_Sort_string Tryz.sort20 blk 0 cap ss w hH hblk hsz
theorem s_SortN (w : World) : Calls Tryz.prog 20 #[.slice none 0 0] w fun e w' => e = .returned (.tuple #[]) ∧ w' = w :=
  AnyM.slices_Sort_string_none Tryz.sort20 none 0 w
theorem rsOkB_zone {zs : List ZoT} {ls : List LkT} {x : Bs} {z : ZoT} (h : res zs ls (ls.length + 1) ⟨x.toArray⟩ = .zone z) : rsOk zs ls x = true := by rw [rsOk, h]
theorem rsOkB_none {zs : List ZoT} {ls : List LkT} {x : Bs} (h : res zs ls (ls.length + 1) ⟨x.toArray⟩ = .none) : rsOk zs ls x = false := by rw [rsOk, h]
theorem rsOkB_loop {zs : List ZoT} {ls : List LkT} {x : Bs} (h : res zs ls (ls.length + 1) ⟨x.toArray⟩ = .loop) : rsOk zs ls x = false := by rw [rsOk, h]
theorem ls_size {ls : List LkT} (h : ls.Pairwise (fun a b => a.1 ≠ b.1)) : Maps.size (mapOf (lPr ls)) = ls.length := by rw [mapOf_size (lPr_pair h)]; simp [lPr]
open Go.Sort in
set_option maxRecDepth 100000 in
set_option maxHeartbeats 8000000 in
theorem n_All_ok (AR AZ AL : Option Addr) (cR cZ cL : Nat) (rs : List RuT) (zs : List ZoT) (ls : List LkT) (w : World) (H : BkOk w w.heap.size ⟨AR, AZ, AL, cR, cZ, cL, rs, zs, ls⟩) (HI : EraIn w) (h : bookE rs zs ls = 0) :
    Calls Tryz.prog 6 #[.agg #[.slice AR rs.length cR, .slice AZ zs.length cZ, .slice AL ls.length cL]] w fun e w' => ∃ (v : Value) (L : List Bs), e = .returned (.tuple #[v, .int .i64 0]) ∧ L.Perm (naL zs ls) ∧
      w'.ownsRow w.heap.size 9 1 v (L.mergeSort fun x y => decide (x ≤ y)).length ((L.mergeSort fun x y => decide (x ≤ y)).map encStr) ∧ Below w.heap.size w w' := by
  obtain ⟨iS, hiS, hz0, hz1, hz2⟩ := info_parts info_Str0'
  have X1 := TK.box w #[.slice AR rs.length cR, .slice AZ zs.length cZ, .slice AL ls.length cL] 26
  have HOf := Lib.hid (n_of_ok' AR AZ AL cR cZ cL rs zs ls (w.alloc (.cells #[.slice AR rs.length cR, .slice AZ zs.length cZ, .slice AL ls.length cL] 26)) (H.step X1.2.2) (HI.on X1.2.2) h)
  have hz20 : zs.length ≤ 20 ∧ ls.length ≤ 20 := (bookE_inv h).1.2
  have HR := Lib.hid (fun (V : World) (g bz bl : Nat) (nm : ByteArray) (hnm : nm.size ≤ maxLen) (hp : PlAt V g bz bl 20 20 zs ls) => n_resolve g bz bl zs ls nm hnm V hp (zs_pair h) (ls_pair h) hz20.2 (fun x hx => (H.ls x hx).2))
  have HZP := Lib.hid (zs_pair h)
  have HLP := Lib.hid (ls_pair h)
  have HB0 := Lib.hid X1.2.2
  clear X1 H HI h
  go_enter Tryz.func6, Tryz.ntmps6
  go_wp2_with fail
  refine HOf.out.mono ?_
  rintro e w1 ⟨g, bz, bl, rfl, hb1, hp⟩
  have HB := Lib.hid (HB0.out.trans (hb1.mono HB0.out.size))
  have HP := Lib.hid hp
  have pg := hp.1 0
  have pg1 := hp.1 1
  have pgl := hp.2.1
  simp at pg pg1
  clear HOf HB0 hb1 hp
  go_wp2_with fail
  refine (callsIn_wide.1 (Tryz.maps_Keys_18 (some bz) _)).mono ?_
  rintro e w2 ⟨rfl, rfl⟩
  have HSo := Lib.hid (callsIn_wide.1 (Tryz.slices_Sorted_keys_17_18 bz 20 (mapOf (zPr zs)) RH w1 HP.out.2.2.1 (by rw [zs_size HZP.out]; unfold maxLen; omega) (by rw [zs_size HZP.out]; omega)))
  go_wp2_with fail
  refine HSo.out.mono ?_
  rintro e w2 ⟨v, ss, rfl, hS, hrow, _, hb2⟩
  have hb3 := ((Below.refl w1.heap.size w1).alloc (Nat.le_refl _) (.cells #[.map (some bz)] 58)).trans (hb2.mono (by simp))
  have HZs := Lib.hid (hS.trans (zs_keys HP.out.2.2.1 keyS Tryz.underlying9 HZP.out).symm)
  have HW := Lib.hid HB.out.size
  obtain ⟨base, hbase⟩ : ∃ b, w1.heap.size = b := ⟨_, rfl⟩
  have HO := Lib.hid (World.ownsRow.mono hrow (show base ≤ _ by rw [size_alloc]; omega))
  replace HB := Lib.hid (HB.out.trans (hb3.mono HB.out.size))
  have HLT := Lib.hid HP.out.lts
  replace HP := Lib.hid (HP.out.step hb3)
  rw [hbase] at HLT HW
  have HBZ := Lib.hid (show base ≤ w2.heap.size by rw [← hbase]; exact hb3.size)
  clear hS hrow hb2 hb3 HSo hbase pg pg1 pgl
  obtain ⟨l0, hl0⟩ : ∃ l, (ss.mergeSort fun x y => decide (x ≤ y)) = l := ⟨_, rfl⟩
  have HL0 := Lib.hid (show l0.Perm (zNs zs) from by rw [← hl0]; exact (List.mergeSort_perm ss _).trans HZs.out)
  have hlen0 : ss.length = l0.length := by rw [← hl0]; exact (List.length_mergeSort ss).symm
  rw [hl0, hlen0] at HO
  clear hl0 hlen0 HZs
  have pg1 := HP.out.1 1
  have pgl := HP.out.2.1
  simp at pg1
  go_wp2_with (first | (at_range; refine wpList_range_own _ rfl _ 59 rfl 9 9 keyS Tryz.underlying59 RH bl 20 (mapOf (lPr ls)) rfl HP.out.2.2.2 ?_; intro w0 hrg0 hg0 hs0) | go_in)
  try go_frame
  obtain ⟨r0, hr0⟩ : ∃ r, w2.heap.size = r := ⟨_, rfl⟩
  rw [hr0] at hrg0 HBZ ⊢
  have HR0 := Lib.hid HBZ.out
  have hb4 := (Below.refl w2.heap.size w2).grown hg0 (Nat.le_refl _) (fun k hk => by cases hk)
  replace HB := Lib.hid (HB.out.trans (hb4.mono HB.out.size))
  replace HP := Lib.hid (HP.out.step hb4)
  replace HO := Lib.hid (own_step HO.out hb4)
  replace HBZ := Lib.hid (show base ≤ w0.heap.size from Nat.le_trans HBZ.out (by rw [← hr0]; exact hb4.size))
  have HCo := Lib.hid (RsC.start (mapOf (lPr ls)) (rsOk zs ls))
  have hl0z : l0.length ≤ 20 := by rw [HL0.out.length_eq, zNs, List.length_map]; omega
  have hcn : Maps.size (mapOf (lPr ls)) ≤ 20 := by rw [ls_size HLP.out]; omega
  clear hg0 hs0 hb4 hr0 pg1 pgl
  go_loopw [6] (fun lv wr => ∃ (l : List Bs) (left : Lit → Bool) (cnt : Nat), wr.ranges Tryz.prog 9 RH bl r0 20 (mapOf (lPr ls)) left cnt ∧ PlAt wr g bz bl 20 20 zs ls ∧ wr.ownsRow base 9 1 lv (l0 ++ l).length ((l0 ++ l).map encStr) ∧ RsC (mapOf (lPr ls)) (rsOk zs ls) left l ∧ Below w.heap.size w wr ∧ base ≤ wr.heap.size ∧ l.length + cnt ≤ 20) (fun _ wr => wr.rangeLeft bl r0)
  case atStart => exact ⟨[], _, _, hrg0, HP.out, by rw [List.append_nil]; exact HO.out, HCo.out, HB.out, HBZ.out, by simpa using hcn⟩
  case round =>
    clear HP HO HCo HB HBZ
    obtain ⟨l, left, cnt, hrg, hP, hO, hCo, hB, hBZ, hlc⟩ := hrel
    have RG := Lib.hid hrg
    have HP := Lib.hid hP
    have HO := Lib.hid hO
    have HCo := Lib.hid hCo
    have HB := Lib.hid hB
    have HBZ := Lib.hid hBZ
    clear hrg hP hO hCo hB hBZ
    go_wp2_with (first | (at_next; refine wpList_next_ranges _ rfl _ rfl 9 keyS RH encStr (fun v : Value => v) (fun key kl hk => by obtain ⟨x, hx, _⟩ := Maps.keyOf_str Tryz.underlying9 hk; exact ⟨x, hx⟩) (fun v y _ => ⟨v, rfl⟩) bl r0 20 _ _ _ rfl RG.out ?_ ?_) | go_in)
    · intro _ hl0
      have HPe := Lib.hid (show (l0 ++ l).Perm (naL zs ls) from HL0.out.append (ls_keys HCo.out hl0 HLP.out))
      clear hl0 HCo RG HP
      have hll : (l0 ++ l).length ≤ 40 := by rw [List.length_append]; omega
      obtain ⟨LL, hLL⟩ : ∃ LL, l0 ++ l = LL := ⟨_, rfl⟩
      rw [hLL] at HO HPe hll
      clear hLL
      have hO := HO.out
      by_cases hv : u6 = .slice none 0 0
      · subst hv
        have hnil : LL = [] := List.length_eq_zero_iff.1 (by
          rcases hO.2 with ⟨_, h⟩ | ⟨_, _, _, h, _⟩
          · exact h
          · cases h)
        rw [hnil] at HPe
        clear hO HO
        go_wp2_with fail
        refine (s_SortN wr).mono ?_
        rintro e w8 ⟨rfl, rfl⟩
        go_wp2_with fail
        go_ret2
        refine ⟨_, [], rfl, HPe.out, ?_, HB.out⟩
        rw [List.mergeSort_nil]
        exact World.ownsRow_nil _ _ _ _
      · obtain ⟨g7, cap7, rfl, hgb, hgl, o1, o2, _, hH⟩ := Lib.holds_of_ownsRow hO hv
        have HSr := Lib.hid (s_SortS g7 cap7 LL wr hH hgl (by omega))
        have hpl : (LL.mergeSort fun x y => decide (x ≤ y)).length = LL.length := List.length_mergeSort _
        obtain ⟨P, hP⟩ : ∃ P, (LL.mergeSort fun x y => decide (x ≤ y)) = P := ⟨_, rfl⟩
        rw [hP] at HSr hpl
        have HPP := Lib.hid hP
        have HPl := Lib.hid hpl
        clear hO hP hpl hH hv o1 o2
        go_wp2_with fail
        refine HSr.out.mono ?_
        rintro e w8 ⟨rfl, nn, os, rfl⟩
        have HOp := Lib.hid (own_putS (os := os) (q := nn) HO.out HPl.out)
        have HB8 := Lib.hid (HB.out.trans (below_putS (q := nn) (d := P.toArray) (os := os) (Nat.le_trans HW.out hgb) HB.out.size))
        rw [HPl.out] at HOp
        go_wp2_with fail
        go_ret2
        refine ⟨_, LL, rfl, HPe.out, ?_, HB8.out⟩
        rw [HPP.out, HPl.out]
        exact World.ownsRow.mono HOp.out HW.out
    · intro x c kl yd yp w3 cnt1 hkey hlk hv hat hrg1 hlt hg1 hs1 hen
      obtain ⟨x', ex, rfl, hxl⟩ := Maps.keyOf_str Tryz.underlying9 hkey
      obtain rfl : x = x' := encStr_inj ex
      replace hlk := Lib.hid hlk
      replace hat := Lib.hid hat
      have hrb : base ≤ r0 := HR0.out
      have hLT := HLT.out
      replace HP := Lib.hid (HP.out.keep hg1 (by simp; omega) (by simp; omega) (by simp; omega))
      have hni := own_iter RG.out HO.out
      replace HO := Lib.hid (HO.out.kept hg1 (Or.inr hni.1))
      replace HB := Lib.hid (HB.out.grown hg1 HB.out.size (fun k hk => by cases hk; exact Nat.le_trans HW.out hrb))
      replace HBZ := Lib.hid (Nat.le_trans HBZ.out hg1.size)
      have HLt := Lib.hid (show cnt1 < wr.rangeLeft bl r0 by rw [RG.out.left_eq]; exact hlt)
      replace RG := Lib.hid hrg1
      have hc1 : l.length + 1 + cnt1 ≤ 20 := by omega
      have HRv := Lib.hid (HR.out w3 g bz bl ⟨x.toArray⟩ (by rw [Lib.size_eq]; simpa using hxl) HP.out)
      clear hkey hv hrg1 hlt hg1 hs1 hni hLT hrb ex hxl
      go_wp2_with fail
      refine HRv.out.mono ?_
      rintro e w4 ⟨rfl, hb4⟩
      replace HP := Lib.hid (HP.out.step hb4)
      replace HO := Lib.hid (own_step HO.out hb4)
      have hgn := grown_none hb4
      replace RG := Lib.hid (RG.out.kept hgn (by simp) (by simp))
      replace HB := Lib.hid (HB.out.trans (hb4.mono HB.out.size))
      replace HBZ := Lib.hid (Nat.le_trans HBZ.out hb4.size)
      clear hgn
      clear hb4 HRv hen
      cases hr : res zs ls (ls.length + 1) ⟨x.toArray⟩ with
      | zone z =>
        replace HCo := Lib.hid (HCo.out.yes hlk.out hat.out (rsOkB_zone hr))
        rw [show rsV (.zone z) = .tuple #[.agg #[.string z.name, .slice z.A z.eras.length z.cap], .int .i64 0] from rfl]
        clear hr hlk hat
        have hV := (Below.refl w4.heap.size w4).alloc (Nat.le_refl _) (.cells #[.string z.name, .slice z.A z.eras.length z.cap] 33)
        replace HP := Lib.hid (HP.out.step hV)
        replace HO := Lib.hid (own_step HO.out hV)
        have hgn := grown_none hV
        replace RG := Lib.hid (RG.out.kept hgn (by simp) (by simp))
        replace HB := Lib.hid (HB.out.trans (hV.mono HB.out.size))
        replace HBZ := Lib.hid (Nat.le_trans HBZ.out hV.size)
        clear hgn
        clear hV
        obtain ⟨V, hV⟩ : ∃ V, w4.alloc (.cells #[.string z.name, .slice z.A z.eras.length z.cap] 33) = V := ⟨_, rfl⟩
        go_upto_region 10 with fail
        rw [hV] at HP HO RG HB HBZ
        try rw [hV]
        clear hV
        have hVZ := HBZ.out
        have hll : (l0 ++ l).length ≤ 40 := by rw [List.length_append]; omega
        obtain ⟨LL, hLL⟩ : ∃ LL, l0 ++ l = LL := ⟨_, rfl⟩
        rw [hLL] at HO hll
        have HLL := Lib.hid hLL
        clear hLL
        go_wp2_with (at_builtin; refine wpList_append_lies _ rfl _ _ _ rfl base 9 iS _ 1 16 Tryz.underlying27 hiS hz0 hz1 hz2 rfl (by omega) u6 LL.length _ rfl (HO.out.alloc (.cells #[encStr x] 9)) ⟨V.heap.size, 0, none⟩ 1 1 [encStr x] rfl rfl (World.news_of_block (cs := #[encStr x]) (t := 9) (fr := (0, 0)) (Blk.new' _ _ _ (by simp))) (by simp [Value.oneCell', encStr]) (by omega) (by unfold maxLen; omega) (by omega) (by simp; omega) (V.heap.size + 1) (by simp) ?_; intro gg cap9 w9 hown9 hgrow hat9 hlt9)
        have hov := HO.out.lt
        have hne1 : u6.ownBlock ≠ some g := fun e => by have := (hov _ e).1; have := HLT.out.1; omega
        have hne2 : u6.ownBlock ≠ some bz := fun e => by have := (hov _ e).1; have := HLT.out.2.1; omega
        have hni := own_iter RG.out HO.out
        have hP9 := (HP.out.step ((Below.refl _ _).alloc (Nat.le_refl _) (.cells #[encStr x] 9))).keep hgrow hne1 hne2 hni.2
        have hR9 := (RG.out.kept (World.grownBy_alloc V (.cells #[encStr x] 9) none) (by simp) (by simp)).kept hgrow (fun e => hni.2 e.symm) (fun e => hni.1 e.symm)
        have hB9 := (HB.out.alloc (Nat.le_trans HW.out HBZ.out) (.cells #[encStr x] 9)).grown hgrow (by simp; have := HW.out; omega) (fun k hk => Nat.le_trans HW.out (hov k hk).1)
        have hO9 : w9.ownsRow base 9 1 (.slice (some ⟨gg, 0, none⟩) (LL.length + 1) cap9) (l0 ++ (l ++ [x])).length ((l0 ++ (l ++ [x])).map encStr) := by
          have e1 : (l0 ++ (l ++ [x])).length = LL.length + 1 := by rw [← List.append_assoc, HLL.out]; simp
          have e2 : (l0 ++ (l ++ [x])).map encStr = LL.map encStr ++ [encStr x] := by rw [← List.append_assoc, HLL.out]; simp
          rw [e1, e2]; exact hown9
        exact ⟨⟨l ++ [x], _, _, hR9, hP9, hO9, HCo.out, hB9, Nat.le_trans hVZ (by have := hgrow.size; simp at this; omega), by rw [List.length_append]; simp; omega⟩, by rw [hR9.left_eq]; exact HLt.out⟩
      | none =>
        replace HCo := Lib.hid (HCo.out.no (rsOkB_none hr))
        rw [show rsV .none = .tuple #[.agg #[.string ⟨#[]⟩, .slice none 0 0], .int .i64 6] from rfl]
        clear hr hlk hat
        have hV := (Below.refl w4.heap.size w4).alloc (Nat.le_refl _) (.cells #[.string ⟨#[]⟩, .slice none 0 0] 33)
        replace HP := Lib.hid (HP.out.step hV)
        replace HO := Lib.hid (own_step HO.out hV)
        have hgn := grown_none hV
        replace RG := Lib.hid (RG.out.kept hgn (by simp) (by simp))
        replace HB := Lib.hid (HB.out.trans (hV.mono HB.out.size))
        replace HBZ := Lib.hid (Nat.le_trans HBZ.out hV.size)
        clear hgn
        clear hV
        go_wp2_with fail
        exact ⟨⟨l, _, _, RG.out, HP.out, HO.out, HCo.out, HB.out, HBZ.out, by omega⟩, by rw [RG.out.left_eq]; exact HLt.out⟩
      | loop =>
        replace HCo := Lib.hid (HCo.out.no (rsOkB_loop hr))
        rw [show rsV .loop = .tuple #[.agg #[.string ⟨#[]⟩, .slice none 0 0], .int .i64 8] from rfl]
        clear hr hlk hat
        have hV := (Below.refl w4.heap.size w4).alloc (Nat.le_refl _) (.cells #[.string ⟨#[]⟩, .slice none 0 0] 33)
        replace HP := Lib.hid (HP.out.step hV)
        replace HO := Lib.hid (own_step HO.out hV)
        have hgn := grown_none hV
        replace RG := Lib.hid (RG.out.kept hgn (by simp) (by simp))
        replace HB := Lib.hid (HB.out.trans (hV.mono HB.out.size))
        replace HBZ := Lib.hid (Nat.le_trans HBZ.out hV.size)
        clear hgn
        clear hV
        go_wp2_with fail
        exact ⟨⟨l, _, _, RG.out, HP.out, HO.out, HCo.out, HB.out, HBZ.out, by omega⟩, by rw [RG.out.left_eq]; exact HLt.out⟩
set_option maxRecDepth 100000 in
set_option maxHeartbeats 4000000 in
theorem n_All_no (AR AZ AL : Option Addr) (cR cZ cL : Nat) (rs : List RuT) (zs : List ZoT) (ls : List LkT) (n : Int) (w : World) (H : BkOk w w.heap.size ⟨AR, AZ, AL, cR, cZ, cL, rs, zs, ls⟩) (HI : EraIn w) (h : bookE rs zs ls = n) (h0 : n ≠ 0) :
    Calls Tryz.prog 6 #[.agg #[.slice AR rs.length cR, .slice AZ zs.length cZ, .slice AL ls.length cL]] w fun e w' => e = .returned (.tuple #[.slice none 0 0, .int .i64 n]) ∧ Below w.heap.size w w' := by
  have X1 := TK.box w #[.slice AR rs.length cR, .slice AZ zs.length cZ, .slice AL ls.length cL] 26
  have HOf := Lib.hid (n_of_no' AR AZ AL cR cZ cL rs zs ls n (w.alloc (.cells #[.slice AR rs.length cR, .slice AZ zs.length cZ, .slice AL ls.length cL] 26)) (H.step X1.2.2) (HI.on X1.2.2) h h0)
  have h2 : (n != 0) = true := by rw [bne_iff_ne]; exact h0
  have HB0 := Lib.hid X1.2.2
  clear X1 H HI h h0
  go_enter Tryz.func6, Tryz.ntmps6
  go_wp2_with fail
  refine HOf.out.mono ?_
  rintro e w1 ⟨rfl, hb1⟩
  have HB := Lib.hid (HB0.out.trans (hb1.mono HB0.out.size))
  clear HOf HB0 hb1
  go_wp2_with fail
  go_ret2
  exact ⟨rfl, HB.out⟩
end Go.Proofs.YthkiohemolndeaaGreatDoor
