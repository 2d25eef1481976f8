/- Walk of the reference's Names. -/
import Derived.Test.YthkiohemolndeaaGreatDoorNaR
import Derived.Test.YthkiohemolndeaaGreatDoorNaQ
import Derived.RegionTactic
namespace Go.Proofs.YthkiohemolndeaaGreatDoor
open Go.RowKit
set_option linter.unusedVariables false
set_option linter.unusedSimpArgs false
attribute [local go_sem ↓] Go.wp_at_zero Go.wp_at_succ
/-- the closure's slice of names, in its box -/
def OutAt (w : World) (gO base : Nat) (l : List Bs) : Prop :=
  gO < base ∧ ((l = [] ∧ Blk w gO 27 #[.slice none 0 0]) ∨ ∃ G cap, Blk w gO 27 #[.slice (some ⟨G, 0, none⟩) l.length cap] ∧ w.ownsRow base 9 1 (.slice (some ⟨G, 0, none⟩) l.length cap) l.length (l.map enS))
theorem OutAt.step {w w' : World} {gO base : Nat} {l : List Bs} (h : OutAt w gO base l) (hb : Below w.heap.size w w') : OutAt w' gO base l :=
  ⟨h.1, h.2.imp (fun h => ⟨h.1, h.2.step hb⟩) (fun ⟨G, cap, a, b⟩ => ⟨G, cap, a.step hb, own_step b hb⟩)⟩
theorem OutAt.lt {w : World} {gO base : Nat} {l : List Bs} (h : OutAt w gO base l) : gO < w.heap.size := by
  rcases h.2 with ⟨_, h⟩ | ⟨G, cap, h, _⟩
  · exact h.lt
  · exact h.lt
theorem r_put (gO base : Nat) (l : List Bs) (nm : ByteArray) (w : World) (H : OutAt w gO base l) (hb : base ≤ w.heap.size) (hl : l.length ≤ 100) :
    Calls Tryz.prog 27 #[.string nm, .pointer (some ⟨gO, 0, none⟩)] w fun e w' => e = .returned (.tuple #[]) ∧ OutAt w' gO base (putS nm.data.toList l) ∧ w.grownBy w' (some gO) := by
  rcases H.2 with ⟨h1, h2⟩ | ⟨G, cap, h1, h2⟩
  · refine (r_put_nil gO nm w l h1 h2).mono ?_
    rintro e w' ⟨g, c, rfl, a, b, d⟩
    exact ⟨rfl, ⟨H.1, Or.inr ⟨g, c, a, b.mono hb⟩⟩, d⟩
  · refine (r_put_some gO G cap base l nm w hl h1 h2).mono ?_
    rintro e w' ⟨g, c, rfl, a, b, d⟩
    exact ⟨rfl, ⟨H.1, Or.inr ⟨g, c, a, b.mono hb⟩⟩, d⟩
theorem putAll_len (ns : List Bs) : (putAll ns []).length = ns.length := by rw [(putAll_perm ns []).length_eq, List.append_nil]
def lNk (zs : List ZoT) (ls : List LkT) (k : Nat) : List Bs := ((ls.take k).filter fun x => rsOk zs ls x.1.data.toList).map fun x => x.1.data.toList
theorem lNk_all (zs : List ZoT) (ls : List LkT) : lNk zs ls ls.length = lNs zs ls := by rw [lNk, List.take_length]; rfl
theorem lNk_yes {zs : List ZoT} {ls : List LkT} {k : Nat} (h : k < ls.length) (ho : rsOk zs ls (ls[k]).1.data.toList = true) : lNk zs ls (k + 1) = lNk zs ls k ++ [(ls[k]).1.data.toList] := by
  rw [lNk, List.take_succ_eq_append_getElem h, List.filter_append, List.map_append]
  simp [ho, lNk]
theorem lNk_no {zs : List ZoT} {ls : List LkT} {k : Nat} (h : k < ls.length) (ho : rsOk zs ls (ls[k]).1.data.toList = false) : lNk zs ls (k + 1) = lNk zs ls k := by
  rw [lNk, List.take_succ_eq_append_getElem h, List.filter_append, List.map_append]
  simp [ho, lNk]
theorem lNk_len (zs : List ZoT) (ls : List LkT) (k : Nat) : (lNk zs ls k).length ≤ ls.length := by
  rw [lNk, List.length_map]
  have h1 := List.length_filter_le (fun x : LkT => rsOk zs ls x.1.data.toList) (ls.take k)
  rw [List.length_take] at h1
  omega
theorem below_of_grown {base : Nat} {w w' : World} {g : Nat} (hg : w.grownBy w' (some g)) (hb : base ≤ g) (hz : base ≤ w.heap.size) : Below base w w' :=
  (Below.refl base w).grown hg hz (fun j hj => by cases hj; exact hb)
theorem rsOk_zone {zs : List ZoT} {ls : List LkT} {nm : ByteArray} {z : ZoT} (h : res zs ls (ls.length + 1) nm = .zone z) : rsOk zs ls nm.data.toList = true := by rw [rsOk, back_bs, h]
theorem rsOk_none {zs : List ZoT} {ls : List LkT} {nm : ByteArray} (h : res zs ls (ls.length + 1) nm = .none) : rsOk zs ls nm.data.toList = false := by rw [rsOk, back_bs, h]
theorem rsOk_loop {zs : List ZoT} {ls : List LkT} {nm : ByteArray} (h : res zs ls (ls.length + 1) nm = .loop) : rsOk zs ls nm.data.toList = false := by rw [rsOk, back_bs, h]
set_option maxRecDepth 100000 in
set_option maxHeartbeats 8000000 in
theorem r_Names (AR AZ AL : Option Addr) (cR cZ cL : Nat) (rs : List RuT) (zs : List ZoT) (ls : List LkT) (w : World) (H : BkOk w w.heap.size ⟨AR, AZ, AL, cR, cZ, cL, rs, zs, ls⟩) (h : bookE rs zs ls = 0) :
    Calls Tryz.prog 10 #[.agg #[.slice AR rs.length cR, .slice AZ zs.length cZ, .slice AL ls.length cL]] w fun e w' => ∃ v, e = .returned v ∧
      w'.ownsRow w.heap.size 9 1 v (putAll (naL zs ls) []).length ((putAll (naL zs ls) []).map enS) ∧ Below w.heap.size w w' := by
  have h3 := H.hZ
  have h4 := H.mZ
  have h5 := H.hL
  have h6 := H.mL
  simp only at h3 h4 h5 h6
  unfold maxLen at h4 h6
  have hz20 : zs.length ≤ 20 ∧ ls.length ≤ 20 := (bookE_inv h).1.2
  have HE := Lib.hid h
  have HH := Lib.hid H
  clear H h
  have hX := (Blk.new w #[.slice AR rs.length cR, .slice AZ zs.length cZ, .slice AL ls.length cL] 26).alloc (.cells #[.slice none 0 0] 27)
  have hO : OutAt ((w.alloc (.cells #[.slice AR rs.length cR, .slice AZ zs.length cZ, .slice AL ls.length cL] 26)).alloc (.cells #[.slice none 0 0] 27)) (w.heap.size + 1) (w.heap.size + 2) [] :=
    ⟨Nat.lt_succ_self _, Or.inl ⟨rfl, Blk.new' _ _ _ (by rw [size_alloc])⟩⟩
  have hB := ((Below.refl w.heap.size w).alloc (Nat.le_refl _) (.cells #[.slice AR rs.length cR, .slice AZ zs.length cZ, .slice AL ls.length cL] 26)).alloc (by rw [size_alloc]; omega) (.cells #[.slice none 0 0] 27)
  go_enter Tryz.func10, Tryz.ntmps10
  go_upto_region 3 with fail
  obtain ⟨W, hW⟩ : ∃ W, (w.alloc (.cells #[.slice AR rs.length cR, .slice AZ zs.length cZ, .slice AL ls.length cL] 26)).alloc (.cells #[.slice none 0 0] 27) = W := ⟨_, rfl⟩
  rw [hW] at hX hO hB
  rw [hW]
  clear hW
  obtain ⟨B, hBs⟩ : ∃ B, w.heap.size = B := ⟨_, rfl⟩
  rw [hBs] at hX hO hB ⊢
  have HW := Lib.hid (Nat.le_of_eq hBs)
  have HO := Lib.hid hO
  have HX := Lib.hid hX
  have HB := Lib.hid hB
  have HBK := Lib.hid (show ∀ wr, Below B w wr → BkOk wr B ⟨AR, AZ, AL, cR, cZ, cL, rs, zs, ls⟩ from fun wr hb => (by rw [← hBs]; exact HH.out.below (by rw [hBs]; exact hb)))
  clear hO hX hB hBs
  have x1 := HX.out.cell 1
  have xl := HX.out.lt
  simp at x1
  go_wp2_with fail
  clear x1 xl
  go_loopw [15] (fun i wr => ∃ k : Nat, k ≤ zs.length ∧ i = .int .i64 k ∧ Hid (OutAt wr (B + 1) (B + 2) (putAll (zNs (zs.take k)) [])) ∧ Hid (Blk wr B 26 #[.slice AR rs.length cR, .slice AZ zs.length cZ, .slice AL ls.length cL]) ∧ Hid (Below B w wr)) (fun i _ => zs.length - (intOf i).toNat)
  case atStart => exact ⟨0, Nat.zero_le _, rfl, HO, HX, HB⟩
  case round =>
    clear HO HX HB
    obtain ⟨k, hk, rfl, HO, HX, HB⟩ := hrel
    by_cases hlt : k < zs.length
    · obtain ⟨b, o, rfl, hb, c0, c1⟩ := zo_at (show SlAt wr B 2 AZ (zs.map zoC) from (HBK.out wr HB.out).Z) hlt
      have hi1 : (0 : Int) ≤ (k : Int) := by omega
      have hi2 : (k : Int) < (zs.length : Int) := by omega
      have hol := HO.out.lt
      have hb' : b < wr.heap.size := by omega
      have HT := Lib.hid (show zNs (zs.take (k + 1)) = zNs (zs.take k) ++ [(zs[k]).name.data.toList] by unfold zNs; rw [List.take_succ_eq_append_getElem hlt, List.map_append]; rfl)
      have hpl : (putAll (zNs (zs.take k)) []).length ≤ 100 := by rw [putAll_len, zNs, List.length_map, List.length_take]; omega
      obtain ⟨x, hx⟩ : ∃ x, zs[k] = x := ⟨_, rfl⟩
      rw [hx] at c0 c1 HT
      clear hx
      have hV1 := (Below.refl wr.heap.size wr).alloc (Nat.le_refl _) (.cells #[.string x.name, .slice x.A x.eras.length x.cap] 33)
      have HP := Lib.hid (r_put (B + 1) (B + 2) _ x.name _ (HO.out.step hV1) (by rw [size_alloc]; omega) hpl)
      replace HX := Lib.hid (HX.out.step hV1)
      replace HB := Lib.hid (HB.out.trans (hV1.mono (by omega)))
      clear hV1 hpl
      go_wp2_with fail
      refine HP.out.mono ?_
      rintro e w2 ⟨rfl, ho, hg⟩
      replace HO := Lib.hid ho
      replace HB := Lib.hid (HB.out.trans (below_of_grown hg (by omega) (by rw [size_alloc]; omega)))
      replace HX := Lib.hid (HX.out.grown hg (by simp))
      clear ho hg HP
      go_wp2_with fail
      exact ⟨⟨k + 1, by omega, by go_num, by rw [HT.out, putAll_snoc]; exact HO, HX, HB⟩, by simp [intOf]; omega⟩
    · obtain rfl : k = zs.length := by omega
      rw [List.take_length] at HO
      have x2 := HX.out.cell 2
      have xl := HX.out.lt
      simp at x2
      go_wp2_with fail
      clear x2 xl
      go_loopw [27] (fun i wr => ∃ k : Nat, k ≤ ls.length ∧ i = .int .i64 k ∧ Hid (OutAt wr (B + 1) (B + 2) (putAll (zNs zs ++ lNk zs ls k) [])) ∧ Hid (Blk wr B 26 #[.slice AR rs.length cR, .slice AZ zs.length cZ, .slice AL ls.length cL]) ∧ Hid (Below B w wr)) (fun i _ => ls.length - (intOf i).toNat)
      case atStart => exact ⟨0, Nat.zero_le _, rfl, by rw [show lNk zs ls 0 = [] by simp [lNk], List.append_nil]; exact HO, HX, HB⟩
      case round =>
        clear HO HX HB
        obtain ⟨k, hk2, rfl, HO, HX, HB⟩ := hrel
        by_cases hlt2 : k < ls.length
        · obtain ⟨b, o, rfl, hb, c0, c1⟩ := lk_at (show SlAt wr B 2 AL (ls.map lkC) from (HBK.out wr HB.out).L) hlt2
          have hi1 : (0 : Int) ≤ (k : Int) := by omega
          have hi2 : (k : Int) < (ls.length : Int) := by omega
          have hol := HO.out.lt
          have hb' : b < wr.heap.size := by omega
          have hpl : (putAll (zNs zs ++ lNk zs ls k) []).length ≤ 100 := by rw [putAll_len, List.length_append, zNs, List.length_map]; have := lNk_len zs ls k; omega
          have HY := Lib.hid (fun h => lNk_yes (zs := zs) (ls := ls) hlt2 h)
          have HN := Lib.hid (fun h => lNk_no (zs := zs) (ls := ls) hlt2 h)
          have hls := (HBK.out wr HB.out).ls _ (List.getElem_mem hlt2)
          obtain ⟨x, hx⟩ : ∃ x, ls[k] = x := ⟨_, rfl⟩
          rw [hx] at c0 c1 HY HN hls
          have HLS := Lib.hid hls
          clear hx hls
          have hV1 := (Below.refl wr.heap.size wr).alloc (Nat.le_refl _) (.cells #[.string x.1, .string x.2] 76)
          replace HO := Lib.hid (HO.out.step hV1)
          replace HX := Lib.hid (HX.out.step hV1)
          replace HB := Lib.hid (HB.out.trans (hV1.mono (by omega)))
          have HL := Lib.hid (Blk.new wr #[.string x.1, .string x.2] 76)
          have hBV := HO.out.lt
          have HRs := Lib.hid (r_Resolve' AR AZ (some ⟨b, o, none⟩) cR cZ cL rs zs ls x.1 HLS.out.1 (wr.alloc (.cells #[.string x.1, .string x.2] 76)) ((HBK.out _ HB.out).more (by rw [size_alloc]; omega)) HE.out)
          have x0 := HX.out.cell 0
          have x1 := HX.out.cell 1
          have x2 := HX.out.cell 2
          have y0 := HL.out.cell 0
          simp at x0 x1 x2 y0
          clear hV1
          go_wp2_with fail
          refine HRs.out.mono ?_
          rintro e w2 ⟨rfl, hb2⟩
          replace HO := Lib.hid (HO.out.step hb2)
          replace HX := Lib.hid (HX.out.step hb2)
          replace HL := Lib.hid (HL.out.step hb2)
          replace HB := Lib.hid (HB.out.trans (hb2.mono (by omega)))
          have hol2 := HO.out.lt
          clear hb2 HRs x0 x1 x2 y0
          cases hr : res zs ls (ls.length + 1) x.1 with
          | zone z =>
            replace HY := Lib.hid (HY.out (rsOk_zone hr))
            rw [show rsV (.zone z) = .tuple #[.agg #[.string z.name, .slice z.A z.eras.length z.cap], .int .i64 0] from rfl]
            clear hr HN HLS
            have hV2 := (Below.refl w2.heap.size w2).alloc (Nat.le_refl _) (.cells #[.string z.name, .slice z.A z.eras.length z.cap] 33)
            replace HO := Lib.hid (HO.out.step hV2)
            replace HX := Lib.hid (HX.out.step hV2)
            replace HL := Lib.hid (HL.out.step hV2)
            replace HB := Lib.hid (HB.out.trans (hV2.mono (by omega)))
            clear hV2
            have hl2 := HL.out.lt
            have hol3 := HO.out.lt
            have HP := Lib.hid (r_put (B + 1) (B + 2) _ x.1 _ HO.out (by omega) hpl)
            have y0 := HL.out.cell 0
            simp at y0
            clear hpl
            go_wp2_with fail
            refine HP.out.mono ?_
            rintro e w3 ⟨rfl, ho, hg⟩
            replace HO := Lib.hid ho
            replace HB := Lib.hid (HB.out.trans (below_of_grown hg (by omega) (by omega)))
            replace HX := Lib.hid (HX.out.grown hg (by simp))
            clear ho hg HP HL y0 hl2
            go_wp2_with fail
            exact ⟨⟨k + 1, by omega, by go_num, by rw [HY.out, ← List.append_assoc, putAll_snoc]; exact HO, HX, HB⟩, by simp [intOf]; omega⟩
          | none =>
            replace HN := Lib.hid (HN.out (rsOk_none hr))
            rw [show rsV .none = .tuple #[.agg #[.string ⟨#[]⟩, .slice none 0 0], .int .i64 6] from rfl]
            clear hr HY HLS
            have hV2 := (Below.refl w2.heap.size w2).alloc (Nat.le_refl _) (.cells #[.string ⟨#[]⟩, .slice none 0 0] 33)
            replace HO := Lib.hid (HO.out.step hV2)
            replace HX := Lib.hid (HX.out.step hV2)
            replace HL := Lib.hid (HL.out.step hV2)
            replace HB := Lib.hid (HB.out.trans (hV2.mono (by omega)))
            clear hV2
            go_wp2_with fail
            exact ⟨⟨k + 1, by omega, by go_num, by rw [HN.out]; exact HO, HX, HB⟩, by simp [intOf]; omega⟩
          | loop =>
            replace HN := Lib.hid (HN.out (rsOk_loop hr))
            rw [show rsV .loop = .tuple #[.agg #[.string ⟨#[]⟩, .slice none 0 0], .int .i64 8] from rfl]
            clear hr HY HLS
            have hV2 := (Below.refl w2.heap.size w2).alloc (Nat.le_refl _) (.cells #[.string ⟨#[]⟩, .slice none 0 0] 33)
            replace HO := Lib.hid (HO.out.step hV2)
            replace HX := Lib.hid (HX.out.step hV2)
            replace HL := Lib.hid (HL.out.step hV2)
            replace HB := Lib.hid (HB.out.trans (hV2.mono (by omega)))
            clear hV2
            go_wp2_with fail
            exact ⟨⟨k + 1, by omega, by go_num, by rw [HN.out]; exact HO, HX, HB⟩, by simp [intOf]; omega⟩
        · obtain rfl : k = ls.length := by omega
          rw [lNk_all] at HO
          rcases HO.out.2 with ⟨h1, h2⟩ | ⟨G, cap, h1, h2⟩
          · have f0 := h2.cell 0
            have fl := h2.lt
            simp at f0
            have hnil := Lib.hid h1
            clear h1 h2
            go_wp2_with fail
            go_ret
            refine ⟨_, rfl, ?_, HB.out.mono HW.out⟩
            rw [show naL zs ls = zNs zs ++ lNs zs ls from rfl, hnil.out]
            exact World.ownsRow_nil _ _ _ _
          · have f0 := h1.cell 0
            have fl := h1.lt
            simp at f0
            have HOW := Lib.hid h2
            clear h1 h2
            go_wp2_with fail
            go_ret
            exact ⟨_, rfl, World.ownsRow.mono HOW.out (Nat.le_trans HW.out (by omega)), HB.out.mono HW.out⟩
end Go.Proofs.YthkiohemolndeaaGreatDoor
