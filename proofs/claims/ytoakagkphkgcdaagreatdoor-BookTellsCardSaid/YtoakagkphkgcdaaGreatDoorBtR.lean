/- Walk of the reference's BookText. -/
import Derived.Test.YtoakagkphkgcdaaGreatDoorNrQ
import Derived.Test.YtoakagkphkgcdaaGreatDoorBcJ
import Derived.Test.YtoakagkphkgcdaaGreatDoorRxR
import Derived.Test.YtoakagkphkgcdaaGreatDoorStRs
namespace Go.Proofs.YtoakagkphkgcdaaGreatDoor
open Go.RowKit
set_option linter.unusedVariables false
set_option linter.unusedSimpArgs false
attribute [local go_sem ↓] Go.wp_at_zero Go.wp_at_succ
/-- one line more -/
def nw (s t : ByteArray) : ByteArray := (if sEq s eMT = true then s else s ++ nl1) ++ t
theorem nw_join {l : List ByteArray} (h : Lns l) (t : ByteArray) : nw (joinN l) t = joinN (l ++ [t]) := by
  by_cases h0 : l = []
  · subst h0
    show (if sEq eMT eMT = true then eMT else eMT ++ nl1) ++ t = t
    rw [if_pos (sEq_iff.2 rfl)]
    apply ByteArray.ext; simp [eMT, ByteArray.data_append]
  · have h1 := h.pos h0
    have h2 : sEq (joinN l) eMT = false := by
      cases hq : sEq (joinN l) eMT with
      | false => rfl
      | true => rw [sEq_iff.1 hq] at h1; exact absurd h1 (by decide)
    rw [joinN_snoc t h0, nw, h2]; rfl
set_option maxRecDepth 100000 in
set_option maxHeartbeats 1000000 in
theorem r_line (g : Nat) (s t : ByteArray) (w : World) (hB : Blk w g 9 #[.string s]) (hs : s.size ≤ 100000000) (ht : t.size ≤ 1000) :
    Calls Tryz.prog 36 #[.string t, .pointer (some ⟨g, 0, none⟩)] w fun e w' => e = .returned (.tuple #[]) ∧ Blk w' g 9 #[.string (nw s t)] ∧ (∀ g2 t2 cs2, g2 ≠ g → Blk w g2 t2 cs2 → Blk w' g2 t2 cs2) ∧ w'.heap.size = w.heap.size ∧ ∀ B a, B ≤ g → Below B a w → Below B a w' := by
  have hc := hB.cell
  have hf := hB.frz
  have hl := hB.lt
  have hm := mt_ne s
  have hm2 := mt_em s
  have HN := Lib.hid (show nw s t = (if sEq s eMT = true then s else s ++ nl1) ++ t from rfl)
  have HB := Lib.hid hB
  cases hq : sEq s eMT with
  | true =>
    rw [hq] at hm hm2 HN
    replace hm : (s.toList != []) = false := hm
    have HN2 := Lib.hid (show nw s t = s ++ t from HN.out.trans (by rw [if_pos rfl]))
    clear HN hq hB
    go_enter Tryz.func36, Tryz.ntmps36
    go_wp2_with fail
    go_end0
    exact ⟨rfl, by rw [HN2.out]; exact HB.out.set 0 _, fun g2 t2 cs2 hne h => h.far (by exact hne) _, by simp, fun B a hb h => h.setCell (by exact hb) _⟩
  | false =>
    rw [hq] at hm hm2 HN
    replace hm : (s.toList != []) = true := hm
    have HN2 := Lib.hid (show nw s t = s ++ ⟨#[10]⟩ ++ t from HN.out.trans (by rw [if_neg Bool.false_ne_true]; rfl))
    clear HN hq hB
    go_enter Tryz.func36, Tryz.ntmps36
    go_wp2_with fail
    go_end0
    exact ⟨rfl, by rw [HN2.out]; exact (HB.out.set 0 _).set 0 _, fun g2 t2 cs2 hne h => (h.far (by exact hne) _).far (by exact hne) _, by simp, fun B a hb h => (h.setCell (by exact hb) _).setCell (by exact hb) _⟩
set_option maxRecDepth 100000 in
set_option maxHeartbeats 8000000 in
theorem r_BookText_ok (AR AZ AL : Option Addr) (cR cZ cL : Nat) (rs : List RuT) (zs : List ZoT) (ls : List LkT) (w : World) (H : BkOk w w.heap.size ⟨AR, AZ, AL, cR, cZ, cL, rs, zs, ls⟩) (h : bookE rs zs ls = 0) :
    Calls Tryz.prog 13 #[.agg #[.slice AR rs.length cR, .slice AZ zs.length cZ, .slice AL ls.length cL]] w fun e w' => e = .returned (.tuple #[.string (joinN (bkX rs zs ls)), .int .i64 0]) ∧ Below w.heap.size w w' := by
  have h1 := H.hR
  have h2 := H.mR
  have h3 := H.hZ
  have h4 := H.mZ
  have h5 := H.hL
  have h6 := H.mL
  simp only at h1 h2 h3 h4 h5 h6
  unfold maxLen at h2 h4 h6
  have hb0 := (Below.refl w.heap.size w).alloc (Nat.le_refl _) (.cells #[.slice AR rs.length cR, .slice AZ zs.length cZ, .slice AL ls.length cL] 26)
  have k0 := Blk.new w #[.slice AR rs.length cR, .slice AZ zs.length cZ, .slice AL ls.length cL] 26
  obtain ⟨W1, hW1⟩ : ∃ W1, w.alloc (.cells #[.slice AR rs.length cR, .slice AZ zs.length cZ, .slice AL ls.length cL] 26) = W1 := ⟨_, rfl⟩
  rw [hW1] at hb0 k0
  have HC := Lib.hid (r_BookCheck' AR AZ AL cR cZ cL rs zs ls W1 (H.step hb0))
  rw [h] at HC
  have HK0 := Lib.hid k0
  have HB0 := Lib.hid hb0
  have HH := Lib.hid H
  have HV := Lib.hid (bkE_inv h)
  have hz20 := HV.out.1
  clear H h hb0 k0
  go_enter Tryz.func13, Tryz.ntmps13
  go_upto_region 1 with fail
  have kb := HK0.out.cell
  go_wp2_with fail
  refine HC.out.mono ?_
  rintro e w1 ⟨rfl, hb1⟩
  have HK1 := Lib.hid (HK0.out.step hb1)
  have HB1 := Lib.hid (HB0.out.trans (hb1.mono HB0.out.size))
  clear hb1 HB0 HC HK0 kb hW1
  have HK := Lib.hid (HK1.out.alloc (.cells #[.string ⟨#[]⟩] 9))
  have HB := Lib.hid (HB1.out.alloc HB1.out.size (.cells #[.string ⟨#[]⟩] 9))
  have HS := Lib.hid (Blk.new w1 #[.string ⟨#[]⟩] 9)
  have hgs : w.heap.size < w1.heap.size := HK1.out.lt
  go_upto_region 5 with fail
  obtain ⟨W, hW⟩ : ∃ W, w1.alloc (.cells #[.string ⟨#[]⟩] 9) = W := ⟨_, rfl⟩
  obtain ⟨gs, hg⟩ : ∃ g, w1.heap.size = g := ⟨_, rfl⟩
  rw [hW] at HK HB HS ⊢
  rw [hg] at HS hgs ⊢
  clear hW hg HK1 HB1
  have kb := HK.out.cell
  have kbl := HK.out.lt
  go_wp2_with fail
  clear kb kbl
  go_loopw [32] (fun i wr => ∃ (k : Nat) (l : List ByteArray), k ≤ rs.length ∧ i = .int .i64 k ∧ l = (rs.take k).map ruX ∧ Hid (Lns l) ∧ Hid (Blk wr gs 9 #[.string (joinN l)]) ∧ Hid (Blk wr w.heap.size 26 #[.slice AR rs.length cR, .slice AZ zs.length cZ, .slice AL ls.length cL]) ∧ Hid (Below w.heap.size w wr)) (fun i _ => rs.length - (intOf i).toNat)
  case atStart => exact ⟨0, [], Nat.zero_le _, rfl, rfl, Lib.hid (fun x hx => by cases hx), HS, HK, HB⟩
  case round =>
    clear HK HB HS
    obtain ⟨k, l, hk, rfl, hl, HL, HS, HK, HB⟩ := hrel
    have hbz := HB.out.size
    have hgl := HS.out.lt
    have hln : l.length ≤ 40 := by rw [hl, List.length_map, List.length_take]; omega
    by_cases hlt : k < rs.length
    · obtain ⟨b, o, rfl, hb, c0, c1, c2, c3, c4, c5, c6, c7, c8, c9, c10⟩ := ru_at (show SlAt wr w.heap.size 11 AR (rs.map ruC) from HH.out.R.below HB.out) hlt
      have hb' : b < wr.heap.size := by omega
      have hi1 : (0 : Int) ≤ (k : Int) := by omega
      have hi2 : (k : Int) < (rs.length : Int) := by omega
      have hro := HH.out.rs _ (List.getElem_mem hlt)
      have hre := HV.out.2.1 k hlt
      rw [get_bang hlt] at hre
      have hm := mapX_snoc ruX hlt
      obtain ⟨r, hr⟩ : ∃ r, rs[k] = r := ⟨_, rfl⟩
      simp only [hr] at c0 c1 c2 c3 c4 c5 c6 c7 c8 c9 c10 hro hre hm
      have htz := ruX_sz hre
      have hjz := HL.out.size
      have HL2 := Lib.hid (Lns.snoc HL.out htz)
      have hl2 : l ++ [ruX r] = (rs.take (k + 1)).map ruX := by rw [hl, hm]
      have HC2 := Lib.hid (show Calls Tryz.prog 37 #[.agg (ruA r)] (wr.alloc (.cells (ruA r) 48)) fun e w' => e = .returned (.tuple #[.string (ruX r), .int .i64 (ruEr r)]) ∧ Below (wr.alloc (.cells (ruA r) 48)).heap.size (wr.alloc (.cells (ruA r) 48)) w' from r_RuleText r.name r.letter r.f r.t r.m r.k r.wd r.n r.a r.b r.sv hro.1 hro.2.1 _)
      have HJ := Lib.hid (nw_join HL.out (ruX r))
      obtain ⟨t, ht⟩ : ∃ t, ruX r = t := ⟨_, rfl⟩
      obtain ⟨q, hq⟩ : ∃ q, ruEr r = q := ⟨_, rfl⟩
      simp only [ht] at HC2 HL2 hl2 htz HJ
      simp only [hq] at HC2
      have HSa := Lib.hid (HS.out.alloc (.cells (ruA r) 48))
      have HKa := Lib.hid (HK.out.alloc (.cells (ruA r) 48))
      have HBa := Lib.hid (HB.out.alloc hbz (.cells (ruA r) 48))
      clear hr hro hre hm ht hq hl HL HS HK HB
      go_wp2_with fail
      refine HC2.out.mono ?_
      rintro e w5 ⟨rfl, hb5⟩
      have HS5 := Lib.hid (HSa.out.step hb5)
      have HK5 := Lib.hid (HKa.out.step hb5)
      have HB5 := Lib.hid (HBa.out.trans (hb5.mono HBa.out.size))
      clear hb5 HC2 HSa HKa HBa c0 c1 c2 c3 c4 c5 c6 c7 c8 c9 c10
      have HLn := Lib.hid (r_line gs (joinN l) t w5 HS5.out (by omega) (by omega))
      rw [HJ.out] at HLn
      go_wp2_with fail
      refine HLn.out.mono ?_
      rintro e w9 ⟨rfl, hs9, hk9, hz9, hb9⟩
      have HS9 := Lib.hid hs9
      have HK9 := Lib.hid (hk9 _ _ _ (by omega) HK5.out)
      have HB9 := Lib.hid (hb9 w.heap.size w (by omega) HB5.out)
      clear hs9 hk9 hz9 hb9 HLn
      go_wp2_with fail
      exact ⟨⟨k + 1, l ++ [t], by omega, by go_num, hl2, HL2, HS9, HK9, HB9⟩, by simp [intOf]; omega⟩
    · obtain rfl : k = rs.length := by omega
      rw [List.take_length] at hl
      have kb := HK.out.cell
      have kbl := HK.out.lt
      go_wp2_with fail
      clear kb kbl
      go_loopw [48] (fun i wr => ∃ (k : Nat) (l : List ByteArray), k ≤ zs.length ∧ i = .int .i64 k ∧ l = rs.map ruX ++ zosX (zs.take k) ∧ Hid (Lns l) ∧ Hid (Blk wr gs 9 #[.string (joinN l)]) ∧ Hid (Blk wr w.heap.size 26 #[.slice AR rs.length cR, .slice AZ zs.length cZ, .slice AL ls.length cL]) ∧ Hid (Below w.heap.size w wr)) (fun i _ => zs.length - (intOf i).toNat)
      case atStart => exact ⟨0, l, Nat.zero_le _, rfl, by rw [hl]; simp [zosX], HL, HS, HK, HB⟩
      case round =>
        clear HK HB HS HL hl hgl
        obtain ⟨k, l, hk, rfl, hl, HL, HS, HK, HB⟩ := hrel
        have hbz := HB.out.size
        have hgl := HS.out.lt
        have h7 : ∀ z ∈ zs, z.eras.length ≤ 700 := fun z hz => by obtain ⟨q, hq, rfl⟩ := List.getElem_of_mem hz; have := (zE_inv (HV.out.2.2.1 q hq)).2.2.1; rw [get_bang hq] at this; exact this
        have hln : l.length ≤ 14060 := by have h8 := zosX_len (zs := zs.take k) (fun z hz => h7 z (List.mem_of_mem_take hz)); rw [List.length_take] at h8; rw [hl, List.length_append, List.length_map]; omega
        clear h7
        by_cases hlt : k < zs.length
        · obtain ⟨b, o, rfl, hb, c0, c1⟩ := zo_at (show SlAt wr w.heap.size 2 AZ (zs.map zoC) from HH.out.Z.below HB.out) hlt
          have hb' : b < wr.heap.size := by omega
          have hi1 : (0 : Int) ≤ (k : Int) := by omega
          have hi2 : (k : Int) < (zs.length : Int) := by omega
          have hzo := HH.out.zs _ (List.getElem_mem hlt)
          have hze := zE_inv (HV.out.2.2.1 k hlt)
          have hm := zosX_snoc hlt
          rw [get_bang hlt] at hze
          obtain ⟨⟨zn, zA, zc, es⟩, hz⟩ : ∃ z, zs[k] = z := ⟨_, rfl⟩
          simp only [hz] at c0 c1 hzo hze hm
          clear hz
          have hzs := hze.2.2.1
          have hzn := nm_sz hze.1
          have HZO := Lib.hid hzo
          have HZE := Lib.hid hze.2.2.2
          have hzc := hzo.2.2.1
          have hzm := hzo.2.2.2.1
          try simp only at hzc hzm hzs hzn
          unfold maxLen at hzm
          have HM := Lib.hid (show rs.map ruX ++ zosX (zs.take (k + 1)) = l ++ zoX ⟨zn, zA, zc, es⟩ es.length by rw [hm, ← List.append_assoc, ← hl])
          have hjz := HL.out.size
          have HLz := Lib.hid (Lns.snoc HL.out (zn_line (z := ⟨zn, zA, zc, es⟩) hze.1))
          have HJ := Lib.hid (nw_join HL.out (⟨#[122, 111, 110, 101, 32]⟩ ++ zn))
          have HSa := Lib.hid (HS.out.alloc (.cells #[.string zn, .slice zA es.length zc] 52))
          have HKa := Lib.hid (HK.out.alloc (.cells #[.string zn, .slice zA es.length zc] 52))
          have HBa := Lib.hid (HB.out.alloc hbz (.cells #[.string zn, .slice zA es.length zc] 52))
          have HZa := Lib.hid (Blk.new wr #[.string zn, .slice zA es.length zc] 52)
          clear hzo hze hm hl HL HS HK HB
          go_upto_region 15 with fail
          obtain ⟨W, hW⟩ : ∃ W, wr.alloc (.cells #[.string zn, .slice zA es.length zc] 52) = W := ⟨_, rfl⟩
          obtain ⟨gz, hgz⟩ : ∃ g, wr.heap.size = g := ⟨_, rfl⟩
          rw [hW] at HSa HKa HBa HZa ⊢
          rw [hgz] at HZa hgl ⊢
          clear hW hgz c0 c1 hb' hbz
          have fz := HZa.out.cell
          have fzl := HZa.out.lt
          have hz5 : (⟨#[122, 111, 110, 101, 32]⟩ ++ zn : ByteArray).size ≤ 25 := by have : (⟨#[122, 111, 110, 101, 32]⟩ : ByteArray).size = 5 := rfl; rw [ByteArray.size_append, this]; omega
          have HLn := Lib.hid (r_line gs (joinN l) (⟨#[122, 111, 110, 101, 32]⟩ ++ zn) W HSa.out (by omega) (by omega))
          rw [HJ.out] at HLn
          clear hz5
          go_wp2_with fail
          refine HLn.out.mono ?_
          rintro e w9 ⟨rfl, hs9, hk9, hz9, hb9⟩
          have HS9 := Lib.hid hs9
          have HK9 := Lib.hid (hk9 _ _ _ (by omega) HKa.out)
          have HZ9 := Lib.hid (hk9 _ _ _ (by omega) HZa.out)
          have HB9 := Lib.hid (hb9 w.heap.size w (by omega) HBa.out)
          clear hs9 hk9 hz9 hb9 HLn fz fzl HSa HKa HBa HZa HJ
          have fz := HZ9.out.cell
          have fzl := HZ9.out.lt
          go_wp2_with fail
          clear fz fzl
          go_loopw [60] (fun i wr => ∃ (j : Nat) (l2 : List ByteArray), j ≤ es.length ∧ i = .int .i64 j ∧ l2 = l ++ zoX ⟨zn, zA, zc, es⟩ j ∧ Hid (Lns l2) ∧ Hid (Blk wr gs 9 #[.string (joinN l2)]) ∧ Hid (Blk wr w.heap.size 26 #[.slice AR rs.length cR, .slice (some ⟨b, o, none⟩) zs.length cZ, .slice AL ls.length cL]) ∧ Hid (Blk wr gz 52 #[.string zn, .slice zA es.length zc]) ∧ Hid (Below w.heap.size w wr)) (fun i _ => es.length - (intOf i).toNat)
          case atStart => exact ⟨0, l ++ [zoneW ++ zn], Nat.zero_le _, rfl, rfl, HLz, HS9, HK9, HZ9, HB9⟩
          case round =>
            clear HK9 HB9 HS9 HLz HZ9
            obtain ⟨j, l2, hj, rfl, hl2, HL2, HS2, HK2, HZ2, HB2⟩ := hrel
            have hbz := HB2.out.size
            have hln2 : l2.length ≤ 14800 := by rw [hl2, List.length_append, zoX_len]; omega
            by_cases hjl : j < es.length
            · obtain ⟨b2, o2, rfl, hb2, d0, d1, d2, d3, d4⟩ := er_at (show SlAt wr w.heap.size 5 zA (es.map erC) from HZO.out.2.1.below HB2.out) hjl
              have hb2' : b2 < wr.heap.size := by omega
              have hj1 : (0 : Int) ≤ (j : Int) := by omega
              have hj2 : (j : Int) < (es.length : Int) := by omega
              have hxo := HZO.out.2.2.2.2 _ (List.getElem_mem hjl)
              have hxe := HZE.out j hjl
              have hx1 := era_sz HV.out.2.1 hxe
              have hx2 := eE_inv hxe
              have hsu := zoX_succ ⟨zn, some ⟨b2, o2, none⟩, zc, es⟩ j
              rw [get_bang hjl] at hx1 hx2 hsu
              obtain ⟨x, hx⟩ : ∃ x, es[j] = x := ⟨_, rfl⟩
              simp only [hx] at d0 d1 d2 d3 d4 hxo hx1 hx2 hsu
              clear hx hxe
              have hqd : decide ((j : Int) < (es.length : Int) - 1) = !decide (j + 1 = es.length) := by rw [Bool.eq_iff_iff, decide_eq_true_eq, Bool.not_eq_true', decide_eq_false_iff_not]; omega
              have hw : IntKind.i64.wrap ((es.length : Int) - 1) = (es.length : Int) - 1 := IntWalk.i64_in _ (by omega)
              obtain ⟨q, hqq⟩ : ∃ q, decide (j + 1 = es.length) = q := ⟨_, rfl⟩
              rw [hqq] at hqd hsu
              have hjz := HL2.out.size
              have htz := erX_sz hx1 q
              have HL3 := Lib.hid (Lns.snoc HL2.out htz)
              have hl3 : l2 ++ [erX x q] = l ++ zoX ⟨zn, some ⟨b2, o2, none⟩, zc, es⟩ (j + 1) := by rw [hl2, hsu, List.append_assoc]
              have HJ := Lib.hid (nw_join HL2.out (erX x q))
              have HO := Lib.hid (fun V => r_Span x.off V)
              have HSv := Lib.hid (fun V => r_Span x.save V)
              have HU := Lib.hid (fun V => r_Stamp x.until_ hxo.2.2.2.2.1 hxo.2.2.2.2.2 V)
              have hm := mt_eq x.rules
              have hm2 := mt_em x.rules
              have zo := hx1.2.2
              have zr := hx1.2.1
              have zf := hx1.1
              have zs' := sp_sz x.save
              have zu := st_sz x.until_
              have HX := Lib.hid (show erX x q = if q = true then erH x else erH x ++ (sp1 ++ stV x.until_) from rfl)
              have HH2 := Lib.hid (show erH x = ⟨#[101, 114, 97, 32]⟩ ++ spV x.off ++ ⟨#[32]⟩ ++ erR x ++ (⟨#[32]⟩ ++ x.format) by rw [← ByteArray.append_assoc]; rfl)
              have HR := Lib.hid (show erR x = if sEq x.rules eMT = true then ⟨#[45]⟩ ++ spV x.save else x.rules from rfl)
              obtain ⟨O, hO⟩ : ∃ y, spV x.off = y := ⟨_, rfl⟩
              simp only [hO] at HO zo HH2
              clear hO
              obtain ⟨S, hS⟩ : ∃ y, spV x.save = y := ⟨_, rfl⟩
              simp only [hS] at HSv zs' HR
              clear hS
              obtain ⟨U, hU⟩ : ∃ y, stV x.until_ = y := ⟨_, rfl⟩
              simp only [hU] at HU zu HX
              clear hU
              have HSa := Lib.hid (HS2.out.alloc (.cells (erA x) 73))
              have HKa := Lib.hid (HK2.out.alloc (.cells (erA x) 73))
              have HZa := Lib.hid (HZ2.out.alloc (.cells (erA x) 73))
              have HBa := Lib.hid (HB2.out.alloc hbz (.cells (erA x) 73))
              have HEa := Lib.hid (Blk.new wr (erA x) 73)
              have hwg : gs < wr.heap.size ∧ gz < wr.heap.size := ⟨HS2.out.lt, HZ2.out.lt⟩
              clear hx1 hx2 hxo hsu hqq hl2 HL2 HS2 HK2 HZ2 HB2
              go_upto_region 19 with fail
              obtain ⟨E, hE⟩ : ∃ W, wr.alloc (.cells (erA x) 73) = W := ⟨_, rfl⟩
              obtain ⟨ge, hge⟩ : ∃ g, wr.heap.size = g := ⟨_, rfl⟩
              rw [hE] at HSa HKa HZa HBa HEa ⊢
              rw [hge] at HEa hwg ⊢
              clear hE hge d0 d1 d2 d3 d4 hb2' hbz
              have fx := HEa.out.cell
              have fxl := HEa.out.lt
              have fz := HZa.out.cell
              have fzl := HZa.out.lt
              go_wp2_with fail
              refine (HO.out _).mono ?_
              rintro e w5 ⟨rfl, hb5⟩
              replace HSa := Lib.hid (HSa.out.step hb5)
              replace HKa := Lib.hid (HKa.out.step hb5)
              replace HZa := Lib.hid (HZa.out.step hb5)
              replace HEa := Lib.hid (HEa.out.step hb5)
              replace HBa := Lib.hid (HBa.out.trans (hb5.mono HBa.out.size))
              clear hb5 fx fxl fz fzl
              have fx := HEa.out.cell
              have fxl := HEa.out.lt
              have fz := HZa.out.cell
              have fzl := HZa.out.lt
              cases hE : sEq x.rules eMT with
              | true =>
                rw [hE] at hm hm2
                have HR2 := Lib.hid (show erR x = ⟨#[45]⟩ ++ S by rw [HR.out, hE]; rfl)
                rw [HR2.out] at HH2
                clear HR HR2 hE zr
                go_wp2_with fail
                refine (HSv.out _).mono ?_
                rintro e w6 ⟨rfl, hb5⟩
                replace HSa := Lib.hid (HSa.out.step hb5)
                replace HKa := Lib.hid (HKa.out.step hb5)
                replace HZa := Lib.hid (HZa.out.step hb5)
                replace HEa := Lib.hid (HEa.out.step hb5)
                replace HBa := Lib.hid (HBa.out.trans (hb5.mono HBa.out.size))
                clear hb5 fx fxl fz fzl
                have fx := HEa.out.cell
                have fxl := HEa.out.lt
                have fz := HZa.out.cell
                have fzl := HZa.out.lt
                cases q with
                | true =>
                  have HT := Lib.hid (show erX x true = ⟨#[101, 114, 97, 32]⟩ ++ O ++ ⟨#[32]⟩ ++ (⟨#[45]⟩ ++ S) ++ (⟨#[32]⟩ ++ x.format) by rw [HX.out, if_pos rfl, HH2.out])
                  have HLn := Lib.hid (r_line gs (joinN l2) (erX x true) w6 HSa.out (by omega) (by omega))
                  rw [HJ.out, HT.out] at HLn
                  go_wp2_with fail
                  refine HLn.out.mono ?_
                  rintro e w9 ⟨rfl, hs9, hk9, hz9, hb9⟩
                  rw [← HT.out] at hs9
                  have HS9 := Lib.hid hs9
                  have HK9 := Lib.hid (hk9 _ _ _ (by omega) HKa.out)
                  have HZ9 := Lib.hid (hk9 _ _ _ (by omega) HZa.out)
                  have HB9 := Lib.hid (hb9 w.heap.size w (by omega) HBa.out)
                  clear hs9 hk9 hz9 hb9 HLn fz fzl fx fxl HSa HKa HBa HZa HEa HJ
                  go_wp2_with fail
                  exact ⟨⟨j + 1, l2 ++ [erX x true], by omega, by go_num, hl3, HL3, HS9, HK9, HZ9, HB9⟩, by simp [intOf]; omega⟩
                | false =>
                  go_wp2_with fail
                  refine (HU.out _).mono ?_
                  rintro e w7 ⟨rfl, hb5⟩
                  replace HSa := Lib.hid (HSa.out.step hb5)
                  replace HKa := Lib.hid (HKa.out.step hb5)
                  replace HZa := Lib.hid (HZa.out.step hb5)
                  replace HEa := Lib.hid (HEa.out.step hb5)
                  replace HBa := Lib.hid (HBa.out.trans (hb5.mono HBa.out.size))
                  clear hb5 fx fxl fz fzl
                  have fx := HEa.out.cell
                  have fxl := HEa.out.lt
                  have fz := HZa.out.cell
                  have fzl := HZa.out.lt
                  have HT := Lib.hid (show erX x false = ⟨#[101, 114, 97, 32]⟩ ++ O ++ ⟨#[32]⟩ ++ (⟨#[45]⟩ ++ S) ++ (⟨#[32]⟩ ++ x.format) ++ (⟨#[32]⟩ ++ U) by rw [HX.out, if_neg Bool.false_ne_true, HH2.out]; rfl)
                  have HLn := Lib.hid (r_line gs (joinN l2) (erX x false) w7 HSa.out (by omega) (by omega))
                  rw [HJ.out, HT.out] at HLn
                  go_wp2_with fail
                  refine HLn.out.mono ?_
                  rintro e w9 ⟨rfl, hs9, hk9, hz9, hb9⟩
                  rw [← HT.out] at hs9
                  have HS9 := Lib.hid hs9
                  have HK9 := Lib.hid (hk9 _ _ _ (by omega) HKa.out)
                  have HZ9 := Lib.hid (hk9 _ _ _ (by omega) HZa.out)
                  have HB9 := Lib.hid (hb9 w.heap.size w (by omega) HBa.out)
                  clear hs9 hk9 hz9 hb9 HLn fz fzl fx fxl HSa HKa HBa HZa HEa HJ
                  go_wp2_with fail
                  exact ⟨⟨j + 1, l2 ++ [erX x false], by omega, by go_num, hl3, HL3, HS9, HK9, HZ9, HB9⟩, by simp [intOf]; omega⟩
              | false =>
                rw [hE] at hm hm2
                have HR2 := Lib.hid (show erR x = x.rules by rw [HR.out, hE]; rfl)
                rw [HR2.out] at HH2 zr
                clear HR HR2 hE
                cases q with
                | true =>
                  have HT := Lib.hid (show erX x true = ⟨#[101, 114, 97, 32]⟩ ++ O ++ ⟨#[32]⟩ ++ x.rules ++ (⟨#[32]⟩ ++ x.format) by rw [HX.out, if_pos rfl, HH2.out])
                  have HLn := Lib.hid (r_line gs (joinN l2) (erX x true) w5 HSa.out (by omega) (by omega))
                  rw [HJ.out, HT.out] at HLn
                  go_wp2_with fail
                  refine HLn.out.mono ?_
                  rintro e w9 ⟨rfl, hs9, hk9, hz9, hb9⟩
                  rw [← HT.out] at hs9
                  have HS9 := Lib.hid hs9
                  have HK9 := Lib.hid (hk9 _ _ _ (by omega) HKa.out)
                  have HZ9 := Lib.hid (hk9 _ _ _ (by omega) HZa.out)
                  have HB9 := Lib.hid (hb9 w.heap.size w (by omega) HBa.out)
                  clear hs9 hk9 hz9 hb9 HLn fz fzl fx fxl HSa HKa HBa HZa HEa HJ
                  go_wp2_with fail
                  exact ⟨⟨j + 1, l2 ++ [erX x true], by omega, by go_num, hl3, HL3, HS9, HK9, HZ9, HB9⟩, by simp [intOf]; omega⟩
                | false =>
                  go_wp2_with fail
                  refine (HU.out _).mono ?_
                  rintro e w7 ⟨rfl, hb5⟩
                  replace HSa := Lib.hid (HSa.out.step hb5)
                  replace HKa := Lib.hid (HKa.out.step hb5)
                  replace HZa := Lib.hid (HZa.out.step hb5)
                  replace HEa := Lib.hid (HEa.out.step hb5)
                  replace HBa := Lib.hid (HBa.out.trans (hb5.mono HBa.out.size))
                  clear hb5 fx fxl fz fzl
                  have fx := HEa.out.cell
                  have fxl := HEa.out.lt
                  have fz := HZa.out.cell
                  have fzl := HZa.out.lt
                  have HT := Lib.hid (show erX x false = ⟨#[101, 114, 97, 32]⟩ ++ O ++ ⟨#[32]⟩ ++ x.rules ++ (⟨#[32]⟩ ++ x.format) ++ (⟨#[32]⟩ ++ U) by rw [HX.out, if_neg Bool.false_ne_true, HH2.out]; rfl)
                  have HLn := Lib.hid (r_line gs (joinN l2) (erX x false) w7 HSa.out (by omega) (by omega))
                  rw [HJ.out, HT.out] at HLn
                  go_wp2_with fail
                  refine HLn.out.mono ?_
                  rintro e w9 ⟨rfl, hs9, hk9, hz9, hb9⟩
                  rw [← HT.out] at hs9
                  have HS9 := Lib.hid hs9
                  have HK9 := Lib.hid (hk9 _ _ _ (by omega) HKa.out)
                  have HZ9 := Lib.hid (hk9 _ _ _ (by omega) HZa.out)
                  have HB9 := Lib.hid (hb9 w.heap.size w (by omega) HBa.out)
                  clear hs9 hk9 hz9 hb9 HLn fz fzl fx fxl HSa HKa HBa HZa HEa HJ
                  go_wp2_with fail
                  exact ⟨⟨j + 1, l2 ++ [erX x false], by omega, by go_num, hl3, HL3, HS9, HK9, HZ9, HB9⟩, by simp [intOf]; omega⟩
            · obtain rfl : j = es.length := by omega
              rw [← HM.out] at hl2
              clear HZ2
              go_wp2_with fail
              exact ⟨⟨k + 1, l2, by omega, by go_num, hl2, HL2, HS2, HK2, HB2⟩, by simp [intOf]; omega⟩
        · obtain rfl : k = zs.length := by omega
          rw [List.take_length] at hl
          have kb := HK.out.cell
          have kbl := HK.out.lt
          go_wp2_with fail
          clear kb kbl
          go_loopw [120] (fun i wr => ∃ (k : Nat) (l : List ByteArray), k ≤ ls.length ∧ i = .int .i64 k ∧ l = rs.map ruX ++ zosX zs ++ (ls.take k).map lkX ∧ Hid (Lns l) ∧ Hid (Blk wr gs 9 #[.string (joinN l)]) ∧ Hid (Blk wr w.heap.size 26 #[.slice AR rs.length cR, .slice AZ zs.length cZ, .slice AL ls.length cL]) ∧ Hid (Below w.heap.size w wr)) (fun i _ => ls.length - (intOf i).toNat)
          case atStart => exact ⟨0, l, Nat.zero_le _, rfl, by rw [hl]; simp, HL, HS, HK, HB⟩
          case round =>
            have hl0 : (rs.map ruX ++ zosX zs).length ≤ 14060 := by rw [← hl]; exact hln
            clear HK HB HS HL hl hln hbz hgl
            obtain ⟨k, l, hk, rfl, hl, HL, HS, HK, HB⟩ := hrel
            have hbz := HB.out.size
            have hgl := HS.out.lt
            have hln : l.length ≤ 14080 := by rw [hl, List.length_append, List.length_map, List.length_take]; omega
            by_cases hlt : k < ls.length
            · obtain ⟨b, o, rfl, hb, c0, c1⟩ := lk_at (show SlAt wr w.heap.size 2 AL (ls.map lkC) from HH.out.L.below HB.out) hlt
              have hb' : b < wr.heap.size := by omega
              have hi1 : (0 : Int) ≤ (k : Int) := by omega
              have hi2 : (k : Int) < (ls.length : Int) := by omega
              have hle := lE_inv (HV.out.2.2.2 k hlt)
              have hm := mapX_snoc lkX hlt
              rw [get_bang hlt] at hle
              obtain ⟨⟨a, t⟩, hx⟩ : ∃ x, ls[k] = x := ⟨_, rfl⟩
              simp only [hx] at c0 c1 hle hm
              clear hx
              have htz := lkX_sz (x := (a, t)) hle
              have hjz := HL.out.size
              have HL2 := Lib.hid (Lns.snoc HL.out htz)
              have hl2 : l ++ [lkX (a, t)] = rs.map ruX ++ zosX zs ++ (ls.take (k + 1)).map lkX := by rw [hl, hm, List.append_assoc]
              have ha := nm_sz hle.1
              have ht := nm_sz hle.2
              try simp only at ha ht
              have HJ := Lib.hid (show nw (joinN l) (⟨#[108, 105, 110, 107, 32]⟩ ++ a ++ ⟨#[32]⟩ ++ t) = joinN (l ++ [lkX (a, t)]) from nw_join HL.out _)
              have htz2 : (⟨#[108, 105, 110, 107, 32]⟩ ++ a ++ ⟨#[32]⟩ ++ t : ByteArray).size ≤ 200 := htz.1
              have HS5 := Lib.hid (HS.out.alloc (.cells #[.string a, .string t] 57))
              have HK5 := Lib.hid (HK.out.alloc (.cells #[.string a, .string t] 57))
              have HB5 := Lib.hid (HB.out.alloc hbz (.cells #[.string a, .string t] 57))
              have HX := Lib.hid (Blk.new wr #[.string a, .string t] 57)
              clear hle hm hl HL HS HK HB
              go_upto_region 35 with fail
              obtain ⟨W, hW⟩ : ∃ W, wr.alloc (.cells #[.string a, .string t] 57) = W := ⟨_, rfl⟩
              rw [hW] at HS5 HK5 HB5 HX ⊢
              clear hW c0 c1
              have fx := HX.out.cell
              have fxl := HX.out.lt
              have HLn := Lib.hid (r_line gs (joinN l) (⟨#[108, 105, 110, 107, 32]⟩ ++ a ++ ⟨#[32]⟩ ++ t) W HS5.out (by omega) (by omega))
              rw [HJ.out] at HLn
              clear htz2
              go_wp2_with fail
              refine HLn.out.mono ?_
              rintro e w9 ⟨rfl, hs9, hk9, hz9, hb9⟩
              have HS9 := Lib.hid hs9
              have HK9 := Lib.hid (hk9 _ _ _ (by omega) HK5.out)
              have HB9 := Lib.hid (hb9 w.heap.size w (by omega) HB5.out)
              clear hs9 hk9 hz9 hb9 HLn fx fxl
              go_wp2_with fail
              exact ⟨⟨k + 1, l ++ [lkX (a, t)], by omega, by go_num, hl2, HL2, HS9, HK9, HB9⟩, by simp [intOf]; omega⟩
            · obtain rfl : k = ls.length := by omega
              rw [List.take_length] at hl
              have HE := Lib.hid (show joinN l = joinN (bkX rs zs ls) by rw [hl]; rfl)
              clear hl
              have fs := HS.out.cell
              go_wp2_with fail
              go_ret2
              exact ⟨ret_sy HE.out rfl, HB.out⟩
set_option maxRecDepth 100000 in
set_option maxHeartbeats 1000000 in
theorem r_BookText_no (AR AZ AL : Option Addr) (cR cZ cL : Nat) (rs : List RuT) (zs : List ZoT) (ls : List LkT) (w : World) (H : BkOk w w.heap.size ⟨AR, AZ, AL, cR, cZ, cL, rs, zs, ls⟩) (n : Int) (h : bookE rs zs ls = n) (h0 : n ≠ 0) :
    Calls Tryz.prog 13 #[.agg #[.slice AR rs.length cR, .slice AZ zs.length cZ, .slice AL ls.length cL]] w fun e w' => e = .returned (.tuple #[.string ⟨#[]⟩, .int .i64 n]) ∧ Below w.heap.size w w' := by
  have X1 := TK.box w #[.slice AR rs.length cR, .slice AZ zs.length cZ, .slice AL ls.length cL] 26
  have HC := Lib.hid (r_BookCheck' AR AZ AL cR cZ cL rs zs ls (w.alloc (.cells #[.slice AR rs.length cR, .slice AZ zs.length cZ, .slice AL ls.length cL] 26)) (H.step X1.2.2))
  rw [h] at HC
  have hcs := X1.1
  have HB0 := Lib.hid X1.2.2
  have hn0 : (n != 0) = true := by rw [bne_iff_ne]; exact h0
  clear X1 H h h0
  go_enter Tryz.func13, Tryz.ntmps13
  go_wp2_with fail
  refine HC.out.mono ?_
  rintro e w1 ⟨rfl, hb1⟩
  go_wp2_with fail
  go_ret2
  exact ⟨rfl, HB0.out.trans (hb1.mono HB0.out.size)⟩
end Go.Proofs.YtoakagkphkgcdaaGreatDoor
