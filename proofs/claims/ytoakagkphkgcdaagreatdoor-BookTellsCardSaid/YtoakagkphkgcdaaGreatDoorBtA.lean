/- Walks of book.eraText and book.Text. -/
import Derived.Test.YtoakagkphkgcdaaGreatDoorBtP
import Derived.Test.YtoakagkphkgcdaaGreatDoorBck
import Derived.Test.YtoakagkphkgcdaaGreatDoorNrQ
import Derived.Test.YtoakagkphkgcdaaGreatDoorRxA
import Derived.Deep.AppendLies
namespace Go.Proofs.YtoakagkphkgcdaaGreatDoor
open Go.RowKit
set_option linter.unusedVariables false
set_option linter.unusedSimpArgs false
attribute [local go_sem ↓] Go.wp_at_zero Go.wp_at_succ
theorem info_StrT : (Tryz.prog.info? 9).map (fun i => (i.zero, i.size, i.bytes)) = some (some (.string ⟨#[]⟩), 1, 16) := by kernel_rfl
def tC (s : ByteArray) : List Value := [.string s]
theorem tC_flat (l : List ByteArray) (t : ByteArray) : ((l ++ [t]).map tC).flatten = (l.map tC).flatten ++ tC t := by simp
theorem jl_size (l : List UInt8) : (⟨l.toArray⟩ : ByteArray).size = l.length := by simp [ByteArray.size]
theorem app_keep {W W9 : World} {base g ty n : Nat} {cs : Array Value} {v : Value} {xs : List Value} (hk : Blk W g ty cs) (ho : W.ownsRow base 9 1 v n xs) (o : Obj) (hg : (W.alloc o).grownBy W9 v.ownBlock) (hne : ty ≠ 9) : Blk W9 g ty cs :=
  Blk.grown' hg (hk.alloc o) (Blk.own_ne (hk.alloc o) (ho.alloc o) hne)
theorem app_below {w W W9 : World} {n : Nat} {v : Value} {xs : List Value} (hb : Below w.heap.size w W) (ho : W.ownsRow w.heap.size 9 1 v n xs) (o : Obj) (hg : (W.alloc o).grownBy W9 v.ownBlock) : Below w.heap.size w W9 :=
  (hb.alloc hb.size o).trans (below_app (hb.alloc hb.size o).size (ho.alloc o) hg)
theorem app_own {W9 : World} {base : Nat} {v : Value} {l : List ByteArray} {t : ByteArray} (h : W9.ownsRow base 9 1 v (l.length + 1) ((l.map tC).flatten ++ tC t)) : W9.ownsRow base 9 1 v (l ++ [t]).length ((l ++ [t]).map tC).flatten := by
  rw [tC_flat, List.length_append]; exact h
set_option maxRecDepth 100000 in
set_option maxHeartbeats 2000000 in
theorem k_eraText (x : ErT) (last : Bool) (hz : x.format.size ≤ 12 ∧ (erR x).size ≤ 22 ∧ (spV x.off).size ≤ 21) (ho : -64800 ≤ x.off ∧ x.off ≤ 64800) (hs : 0 ≤ x.save ∧ x.save ≤ 10800) (hu : wf63 x.until_) (w : World) (HI : EraIn w) :
    Calls Tryz.prog 34 #[.agg (erA x), .bool last] w fun e w' => e = .returned (.string (erX x last)) ∧ Below w.heap.size w w' := by
  have X1 := TK.box w (erA x) 73
  have HO := Lib.hid (fun (V : World) (hb : Below w.heap.size w V) => k_Span x.off V ((HI (x.off.natAbs / 3600) (by omega)).on hb))
  have HS := Lib.hid (fun (V : World) (hb : Below w.heap.size w V) => k_Span x.save V ((HI (x.save.natAbs / 3600) (by omega)).on hb))
  have HU := Lib.hid (fun (V : World) (hb : Below w.heap.size w V) => k_Stamp x.until_ hu.1 hu.2 V (fun y hy => (HI y hy).on hb))
  have hcs := X1.1
  have hcz := X1.2.1
  have HB0 := Lib.hid X1.2.2
  have hm := mt_eq x.rules
  have hm2 := mt_em x.rules
  have zs := sp_sz x.save
  have zu := st_sz x.until_
  obtain ⟨z1, z2, z3⟩ := hz
  have HX := Lib.hid (show erX x last = if last = true then erH x else erH x ++ (sp1 ++ stV x.until_) from rfl)
  have HH := Lib.hid (show erH x = ⟨#[101, 114, 97, 32]⟩ ++ spV x.off ++ ⟨#[32]⟩ ++ erR x ++ ⟨#[32]⟩ ++ x.format from rfl)
  have HR := Lib.hid (show erR x = if sEq x.rules eMT = true then ⟨#[45]⟩ ++ spV x.save else x.rules from rfl)
  obtain ⟨O, hO⟩ : ∃ y, spV x.off = y := ⟨_, rfl⟩
  obtain ⟨S, hS⟩ : ∃ y, spV x.save = y := ⟨_, rfl⟩
  obtain ⟨U, hU⟩ : ∃ y, stV x.until_ = y := ⟨_, rfl⟩
  simp only [hO] at HO z3 HH
  simp only [hS] at HS zs HR
  simp only [hU] at HU zu HX
  clear X1 HI ho hs hu hO hS hU
  cases hE : sEq x.rules eMT with
  | true =>
    rw [hE] at hm hm2
    have HR2 := Lib.hid (show erR x = ⟨#[45]⟩ ++ S by rw [HR.out, hE]; rfl)
    rw [HR2.out] at HH
    clear HR HR2 hE z2
    cases last with
    | true =>
      have HX2 := Lib.hid (HX.out.trans ((if_pos rfl).trans HH.out))
      go_enter Tryz.func34, Tryz.ntmps34
      go_wp2_with fail
      refine (HO.out _ HB0.out).mono ?_
      rintro e w1 ⟨rfl, hb1⟩
      have c1 := fun i => (hb1.cell (p := ⟨w.heap.size, i, none⟩) hcz).trans (hcs i)
      have n1 := Nat.lt_of_lt_of_le hcz hb1.size
      have HB1 := Lib.hid (HB0.out.trans (hb1.mono HB0.out.size))
      clear hcs hcz hb1 HB0 HO
      go_wp2_with fail
      refine (HS.out w1 HB1.out).mono ?_
      rintro e w2 ⟨rfl, hb2⟩
      have c2 := fun i => (hb2.cell (p := ⟨w.heap.size, i, none⟩) n1).trans (c1 i)
      have HB2 := Lib.hid (HB1.out.trans (hb2.mono HB1.out.size))
      clear c1 hb2 HB1 HS
      go_wp2_with fail
      go_ret
      exact ⟨by rw [HX2.out]; rfl, HB2.out⟩
    | false =>
      have HX2 := Lib.hid (HX.out.trans ((if_neg Bool.false_ne_true).trans (by rw [HH.out] : erH x ++ (sp1 ++ U) = ⟨#[101, 114, 97, 32]⟩ ++ O ++ ⟨#[32]⟩ ++ (⟨#[45]⟩ ++ S) ++ ⟨#[32]⟩ ++ x.format ++ (sp1 ++ U))))
      go_enter Tryz.func34, Tryz.ntmps34
      go_wp2_with fail
      refine (HO.out _ HB0.out).mono ?_
      rintro e w1 ⟨rfl, hb1⟩
      have c1 := fun i => (hb1.cell (p := ⟨w.heap.size, i, none⟩) hcz).trans (hcs i)
      have n1 := Nat.lt_of_lt_of_le hcz hb1.size
      have HB1 := Lib.hid (HB0.out.trans (hb1.mono HB0.out.size))
      clear hcs hcz hb1 HB0 HO
      go_wp2_with fail
      refine (HS.out w1 HB1.out).mono ?_
      rintro e w2 ⟨rfl, hb2⟩
      have c2 := fun i => (hb2.cell (p := ⟨w.heap.size, i, none⟩) n1).trans (c1 i)
      have n2 := Nat.lt_of_lt_of_le n1 hb2.size
      have HB2 := Lib.hid (HB1.out.trans (hb2.mono HB1.out.size))
      clear c1 n1 hb2 HB1 HS
      go_wp2_with fail
      refine (HU.out w2 HB2.out).mono ?_
      rintro e w3 ⟨rfl, hb3⟩
      have HB3 := Lib.hid (HB2.out.trans (hb3.mono HB2.out.size))
      clear c2 hb3 HB2 HU
      go_wp2_with fail
      go_ret
      exact ⟨by rw [HX2.out]; rfl, HB3.out⟩
  | false =>
    rw [hE] at hm hm2
    have HR2 := Lib.hid (show erR x = x.rules by rw [HR.out, hE]; rfl)
    rw [HR2.out] at HH z2
    clear HR HR2 hE
    cases last with
    | true =>
      have HX2 := Lib.hid (HX.out.trans ((if_pos rfl).trans HH.out))
      go_enter Tryz.func34, Tryz.ntmps34
      go_wp2_with fail
      refine (HO.out _ HB0.out).mono ?_
      rintro e w1 ⟨rfl, hb1⟩
      have c1 := fun i => (hb1.cell (p := ⟨w.heap.size, i, none⟩) hcz).trans (hcs i)
      have n1 := Nat.lt_of_lt_of_le hcz hb1.size
      have HB1 := Lib.hid (HB0.out.trans (hb1.mono HB0.out.size))
      clear hcs hcz hb1 HB0 HO
      go_wp2_with fail
      go_ret
      exact ⟨by rw [HX2.out]; rfl, HB1.out⟩
    | false =>
      have HX2 := Lib.hid (HX.out.trans ((if_neg Bool.false_ne_true).trans (by rw [HH.out] : erH x ++ (sp1 ++ U) = ⟨#[101, 114, 97, 32]⟩ ++ O ++ ⟨#[32]⟩ ++ x.rules ++ ⟨#[32]⟩ ++ x.format ++ (sp1 ++ U))))
      go_enter Tryz.func34, Tryz.ntmps34
      go_wp2_with fail
      refine (HO.out _ HB0.out).mono ?_
      rintro e w1 ⟨rfl, hb1⟩
      have c1 := fun i => (hb1.cell (p := ⟨w.heap.size, i, none⟩) hcz).trans (hcs i)
      have n1 := Nat.lt_of_lt_of_le hcz hb1.size
      have HB1 := Lib.hid (HB0.out.trans (hb1.mono HB0.out.size))
      clear hcs hcz hb1 HB0 HO
      go_wp2_with fail
      refine (HU.out w1 HB1.out).mono ?_
      rintro e w3 ⟨rfl, hb3⟩
      have HB3 := Lib.hid (HB1.out.trans (hb3.mono HB1.out.size))
      clear c1 hb3 HB1 HU
      go_wp2_with fail
      go_ret
      exact ⟨by rw [HX2.out]; rfl, HB3.out⟩
set_option maxRecDepth 100000 in
set_option maxHeartbeats 8000000 in
theorem k_Text_ok (AR AZ AL : Option Addr) (cR cZ cL : Nat) (rs : List RuT) (zs : List ZoT) (ls : List LkT) (w : World) (H : BkOk w w.heap.size ⟨AR, AZ, AL, cR, cZ, cL, rs, zs, ls⟩) (HI : EraIn w) (HT : TrimIn w) (h : bookE rs zs ls = 0) :
    Calls Tryz.prog 12 #[.agg #[.slice AR rs.length cR, .slice AZ zs.length cZ, .slice AL ls.length cL]] w fun e w' => e = .returned (.tuple #[.string (joinN (bkX rs zs ls)), .int .i64 0]) ∧ Below w.heap.size w w' := by
  have h1 := H.hR
  have h2 := H.mR
  have h3 := H.hZ
  have h4 := H.mZ
  have h5 := H.hL
  have h6 := H.mL
  simp only at h1 h2 h3 h4 h5 h6
  unfold maxLen at h2 h4 h6
  have hb0 := (Below.refl w.heap.size w).alloc (Nat.le_refl _) (.cells #[.slice AR rs.length cR, .slice AZ zs.length cZ, .slice AL ls.length cL] 26)
  have k0 := Blk.new w #[.slice AR rs.length cR, .slice AZ zs.length cZ, .slice AL ls.length cL] 26
  obtain ⟨W1, hW1⟩ : ∃ W1, w.alloc (.cells #[.slice AR rs.length cR, .slice AZ zs.length cZ, .slice AL ls.length cL] 26) = W1 := ⟨_, rfl⟩
  rw [hW1] at hb0 k0
  have HC := Lib.hid (c_Check' AR AZ AL cR cZ cL rs zs ls W1 (H.step hb0) (HI.on hb0))
  rw [h] at HC
  have HK0 := Lib.hid k0
  have HB0 := Lib.hid hb0
  have HH := Lib.hid H
  have HV := Lib.hid (bkE_inv h)
  have hz20 := HV.out.1
  have HIh := Lib.hid HI
  have HTh := Lib.hid HT
  clear H h hb0 k0 HI HT
  obtain ⟨i0, hi0, hq0, hq1, hq2⟩ := info_parts info_StrT
  go_enter Tryz.func12, Tryz.ntmps12
  go_upto_region 1 with fail
  have kb := HK0.out.cell
  go_wp2_with fail
  refine HC.out.mono ?_
  rintro e w1 ⟨rfl, hb1⟩
  have HK := Lib.hid (HK0.out.step hb1)
  have HB := Lib.hid (HB0.out.trans (hb1.mono HB0.out.size))
  clear hb1 HB0 HC HK0 kb hW1
  have kb := HK.out.cell
  have kbl := HK.out.lt
  go_wp2_with fail
  clear kb kbl
  go_loopw [5, 24] (fun v i wr => ∃ (k : Nat) (l : List ByteArray), k ≤ rs.length ∧ i = .int .i64 k ∧ l = (rs.take k).map ruX ∧ Hid (Lns l) ∧ Hid (wr.ownsRow w.heap.size 9 1 v l.length (l.map tC).flatten) ∧ Hid (Blk wr w.heap.size 26 #[.slice AR rs.length cR, .slice AZ zs.length cZ, .slice AL ls.length cL]) ∧ Hid (Below w.heap.size w wr)) (fun _ i _ => rs.length - (intOf i).toNat)
  case atStart => exact ⟨0, [], Nat.zero_le _, rfl, rfl, Lib.hid (fun x hx => by cases hx), Lib.hid (World.ownsRow_nil _ _ _ _), HK, HB⟩
  case round =>
    clear HK HB
    obtain ⟨k, l, hk, rfl, hl, HL, HO, HK, HB⟩ := hrel
    have hbz := HB.out.size
    have hln : l.length ≤ 40 := by rw [hl, List.length_map, List.length_take]; omega
    by_cases hlt : k < rs.length
    · obtain ⟨b, o, rfl, hb, c0, c1, c2, c3, c4, c5, c6, c7, c8, c9, c10⟩ := ru_at (show SlAt wr w.heap.size 11 AR (rs.map ruC) from HH.out.R.below HB.out) hlt
      have hb' : b < wr.heap.size := by omega
      have hi1 : (0 : Int) ≤ (k : Int) := by omega
      have hi2 : (k : Int) < (rs.length : Int) := by omega
      have hro := HH.out.rs _ (List.getElem_mem hlt)
      have hre := HV.out.2.1 k hlt
      rw [get_bang hlt] at hre
      have hm := mapX_snoc ruX hlt
      obtain ⟨r, hr⟩ : ∃ r, rs[k] = r := ⟨_, rfl⟩
      simp only [hr] at c0 c1 c2 c3 c4 c5 c6 c7 c8 c9 c10 hro hre hm
      have HL2 := Lib.hid (Lns.snoc HL.out (ruX_sz hre))
      have hl2 : l ++ [ruX r] = (rs.take (k + 1)).map ruX := by rw [hl, hm]
      have hba := HB.out.alloc hbz (.cells (ruA r) 48)
      have HC2 := Lib.hid (show Calls Tryz.prog 33 #[.agg (ruA r)] (wr.alloc (.cells (ruA r) 48)) fun e w' => e = .returned (.tuple #[.string (ruX r), .int .i64 (ruEr r)]) ∧ Below (wr.alloc (.cells (ruA r) 48)).heap.size (wr.alloc (.cells (ruA r) 48)) w' from u_Text r.name r.letter r.f r.t r.m r.k r.wd r.n r.a r.b r.sv hro.1 hro.2.1 _ (fun y hy => (HIh.out y hy).on hba) (HTh.out.on hba))
      obtain ⟨t, ht⟩ : ∃ t, ruX r = t := ⟨_, rfl⟩
      obtain ⟨q, hq⟩ : ∃ q, ruEr r = q := ⟨_, rfl⟩
      simp only [ht] at HC2 HL2 hl2
      simp only [hq] at HC2
      have HOa := Lib.hid (HO.out.alloc (.cells (ruA r) 48))
      have HKa := Lib.hid (HK.out.alloc (.cells (ruA r) 48))
      have HBa := Lib.hid hba
      clear hr hro hre hm ht hq hba hl HL HO HK HB
      go_wp2_with fail
      refine HC2.out.mono ?_
      rintro e w5 ⟨rfl, hb5⟩
      have HO5 := Lib.hid (own_step HOa.out hb5)
      have HK5 := Lib.hid (HKa.out.step hb5)
      have HB5 := Lib.hid (HBa.out.trans (hb5.mono HBa.out.size))
      have hb5z := HB5.out.size
      clear hb5 HC2 HOa HKa HBa c0 c1 c2 c3 c4 c5 c6 c7 c8 c9 c10
      go_wp2_with (at_builtin; refine wpList_append_lies _ rfl _ _ _ rfl w.heap.size 9 i0 _ 1 16 Tryz.underlying80 hi0 hq0 hq1 hq2 rfl (by omega) u5 l.length _ rfl (HO5.out.alloc (.cells #[.string t] 9)) ⟨w5.heap.size, 0, none⟩ 1 1 (tC t) rfl rfl (World.news_of_block (cs := (tC t).toArray) (t := 9) (fr := (0, 0)) (Blk.new' _ _ _ (by simp))) (by simp [Value.oneCell', tC]) (by omega) (by unfold maxLen; omega) (by omega) (by simp; omega) (w5.heap.size + 1) (by simp) ?_; intro gg cap9 w9 hown9 hgrow hat hlt9)
      exact ⟨⟨k + 1, l ++ [t], by omega, by go_num, hl2, HL2, Lib.hid (app_own hown9), Lib.hid (app_keep HK5.out HO5.out _ hgrow (by decide)), Lib.hid (app_below HB5.out HO5.out _ hgrow)⟩, by simp [intOf]; omega⟩
    · obtain rfl : k = rs.length := by omega
      rw [List.take_length] at hl
      have kb := HK.out.cell
      have kbl := HK.out.lt
      go_wp2_with fail
      clear kb kbl
      go_loopw [5, 41] (fun v i wr => ∃ (k : Nat) (l : List ByteArray), k ≤ zs.length ∧ i = .int .i64 k ∧ l = rs.map ruX ++ zosX (zs.take k) ∧ Hid (Lns l) ∧ Hid (wr.ownsRow w.heap.size 9 1 v l.length (l.map tC).flatten) ∧ Hid (Blk wr w.heap.size 26 #[.slice AR rs.length cR, .slice AZ zs.length cZ, .slice AL ls.length cL]) ∧ Hid (Below w.heap.size w wr)) (fun _ i _ => zs.length - (intOf i).toNat)
      case atStart => exact ⟨0, l, Nat.zero_le _, rfl, by rw [hl]; simp [zosX], HL, HO, HK, HB⟩
      case round =>
        clear HK HB HO HL hl
        obtain ⟨k, l, hk, rfl, hl, HL, HO, HK, HB⟩ := hrel
        have hbz := HB.out.size
        have h7 : ∀ z ∈ zs, z.eras.length ≤ 700 := fun z hz => by obtain ⟨q, hq, rfl⟩ := List.getElem_of_mem hz; have := (zE_inv (HV.out.2.2.1 q hq)).2.2.1; rw [get_bang hq] at this; exact this
        have hln : l.length ≤ 14060 := by have h8 := zosX_len (zs := zs.take k) (fun z hz => h7 z (List.mem_of_mem_take hz)); rw [List.length_take] at h8; rw [hl, List.length_append, List.length_map]; omega
        clear h7
        by_cases hlt : k < zs.length
        · obtain ⟨b, o, rfl, hb, c0, c1⟩ := zo_at (show SlAt wr w.heap.size 2 AZ (zs.map zoC) from HH.out.Z.below HB.out) hlt
          have hb' : b < wr.heap.size := by omega
          have hi1 : (0 : Int) ≤ (k : Int) := by omega
          have hi2 : (k : Int) < (zs.length : Int) := by omega
          have hzo := HH.out.zs _ (List.getElem_mem hlt)
          have hze := zE_inv (HV.out.2.2.1 k hlt)
          have hm := zosX_snoc hlt
          rw [get_bang hlt] at hze
          obtain ⟨⟨zn, zA, zc, es⟩, hz⟩ : ∃ z, zs[k] = z := ⟨_, rfl⟩
          simp only [hz] at c0 c1 hzo hze hm
          clear hz
          try simp only at hzo hze hm
          have hzs := hze.2.2.1
          have hzn := nm_sz hze.1
          have HZO := Lib.hid hzo
          have HZE := Lib.hid hze.2.2.2
          have hzc := hzo.2.2.1
          have hzm := hzo.2.2.2.1
          unfold maxLen at hzm
          have HM := Lib.hid (show rs.map ruX ++ zosX (zs.take (k + 1)) = l ++ zoX ⟨zn, zA, zc, es⟩ es.length by rw [hm, ← List.append_assoc, ← hl])
          have HLz := Lib.hid (Lns.snoc HL.out (zn_line (z := ⟨zn, zA, zc, es⟩) hze.1))
          have HOa := Lib.hid (HO.out.alloc (.cells #[.string zn, .slice zA es.length zc] 52))
          have HKa := Lib.hid (HK.out.alloc (.cells #[.string zn, .slice zA es.length zc] 52))
          have HBa := Lib.hid (HB.out.alloc hbz (.cells #[.string zn, .slice zA es.length zc] 52))
          have HZa := Lib.hid (Blk.new wr #[.string zn, .slice zA es.length zc] 52)
          clear hzo hze hm hl HL HO HK HB
          go_upto_region 14 with fail
          obtain ⟨W, hW⟩ : ∃ W, wr.alloc (.cells #[.string zn, .slice zA es.length zc] 52) = W := ⟨_, rfl⟩
          obtain ⟨gz, hgz⟩ : ∃ g, wr.heap.size = g := ⟨_, rfl⟩
          rw [hW] at HOa HKa HBa HZa ⊢
          rw [hgz] at HZa ⊢
          clear hW hgz c0 c1 hb'  hbz
          have fz := HZa.out.cell
          have fzl := HZa.out.lt
          have hbz := HBa.out.size
          go_upto_region 15 with (at_builtin; refine wpList_append_lies _ rfl _ _ _ rfl w.heap.size 9 i0 _ 1 16 Tryz.underlying80 hi0 hq0 hq1 hq2 rfl (by omega) u5 l.length _ rfl (HOa.out.alloc (.cells #[.string (⟨#[122, 111, 110, 101, 32]⟩ ++ zn)] 9)) ⟨W.heap.size, 0, none⟩ 1 1 (tC (⟨#[122, 111, 110, 101, 32]⟩ ++ zn)) rfl rfl (World.news_of_block (cs := (tC (⟨#[122, 111, 110, 101, 32]⟩ ++ zn)).toArray) (t := 9) (fr := (0, 0)) (Blk.new' _ _ _ (by simp))) (by simp [Value.oneCell', tC]) (by omega) (by unfold maxLen; omega) (by omega) (by simp; omega) (W.heap.size + 1) (by simp) ?_; intro gg cap9 w9 hown9 hgrow hat hlt9)
          have HO9 := Lib.hid (app_own hown9)
          have HK9 := Lib.hid (app_keep HKa.out HOa.out _ hgrow (by decide))
          have HZ9 := Lib.hid (app_keep HZa.out HOa.out _ hgrow (by decide))
          have HB9 := Lib.hid (app_below HBa.out HOa.out _ hgrow)
          clear fz fzl hown9 hgrow hat hlt9 HOa HKa HBa HZa hbz
          have fz := HZ9.out.cell
          have fzl := HZ9.out.lt
          go_wp2_with fail
          clear fz fzl
          go_loopw [5, 54] (fun v i wr => ∃ (j : Nat) (l2 : List ByteArray), j ≤ es.length ∧ i = .int .i64 j ∧ l2 = l ++ zoX ⟨zn, zA, zc, es⟩ j ∧ Hid (Lns l2) ∧ Hid (wr.ownsRow w.heap.size 9 1 v l2.length (l2.map tC).flatten) ∧ Hid (Blk wr w.heap.size 26 #[.slice AR rs.length cR, .slice (some ⟨b, o, none⟩) zs.length cZ, .slice AL ls.length cL]) ∧ Hid (Blk wr gz 52 #[.string zn, .slice zA es.length zc]) ∧ Hid (Below w.heap.size w wr)) (fun _ i _ => es.length - (intOf i).toNat)
          case atStart => exact ⟨0, l ++ [zoneW ++ zn], Nat.zero_le _, rfl, rfl, HLz, HO9, HK9, HZ9, HB9⟩
          case round =>
            clear HK9 HB9 HO9 HLz HZ9
            obtain ⟨j, l2, hj, rfl, hl2, HL2, HO2, HK2, HZ2, HB2⟩ := hrel
            have hbz := HB2.out.size
            have hln2 : l2.length ≤ 14800 := by rw [hl2, List.length_append, zoX_len]; omega
            have fz := HZ2.out.cell
            have fzl := HZ2.out.lt
            by_cases hjl : j < es.length
            · obtain ⟨b2, o2, rfl, hb2, d0, d1, d2, d3, d4⟩ := er_at (show SlAt wr w.heap.size 5 zA (es.map erC) from HZO.out.2.1.below HB2.out) hjl
              have hb2' : b2 < wr.heap.size := by omega
              have hj1 : (0 : Int) ≤ (j : Int) := by omega
              have hj2 : (j : Int) < (es.length : Int) := by omega
              have hxo := HZO.out.2.2.2.2 _ (List.getElem_mem hjl)
              have hxe := HZE.out j hjl
              have hx1 := era_sz HV.out.2.1 hxe
              have hx2 := eE_inv hxe
              have hsu := zoX_succ ⟨zn, some ⟨b2, o2, none⟩, zc, es⟩ j
              rw [get_bang hjl] at hx1 hx2 hsu
              obtain ⟨x, hx⟩ : ∃ x, es[j] = x := ⟨_, rfl⟩
              simp only [hx] at d0 d1 d2 d3 d4 hxo hx1 hx2 hsu
              clear hx hxe
              have hq : ((j : Int) == (es.length : Int) - 1) = decide (j + 1 = es.length) := by rw [Bool.eq_iff_iff, beq_iff_eq, decide_eq_true_eq]; omega
              have hw : IntKind.i64.wrap ((es.length : Int) - 1) = (es.length : Int) - 1 := IntWalk.i64_in _ (by omega)
              obtain ⟨q, hqq⟩ : ∃ q, decide (j + 1 = es.length) = q := ⟨_, rfl⟩
              rw [hqq] at hq hsu
              have hba := HB2.out.alloc hbz (.cells (erA x) 73)
              have HX := Lib.hid (k_eraText x q hx1 hx2.1 hx2.2 hxo.2.2.2.2 (wr.alloc (.cells (erA x) 73)) (HIh.out.on hba))
              have HL3 := Lib.hid (Lns.snoc HL2.out (erX_sz hx1 q))
              have hl3 : l2 ++ [erX x q] = l ++ zoX ⟨zn, some ⟨b2, o2, none⟩, zc, es⟩ (j + 1) := by rw [hl2, hsu, List.append_assoc]
              obtain ⟨t, ht⟩ : ∃ t, erX x q = t := ⟨_, rfl⟩
              rw [ht] at HX HL3 hl3
              have HOa := Lib.hid (HO2.out.alloc (.cells (erA x) 73))
              have HKa := Lib.hid (HK2.out.alloc (.cells (erA x) 73))
              have HZa := Lib.hid (HZ2.out.alloc (.cells (erA x) 73))
              have HBa := Lib.hid hba
              clear hx1 hx2 hxo hsu hqq hba ht hl2 HL2 HO2 HK2 HZ2 HB2
              go_wp2_with (first | (go_at_call 34; refine (HX.out).mono ?_; rintro e w5 ⟨rfl, hb5⟩; have HO5 := Lib.hid (own_step HOa.out hb5); have HK5 := Lib.hid (HKa.out.step hb5); have HZ5 := Lib.hid (HZa.out.step hb5); have HB5 := Lib.hid (HBa.out.trans (hb5.mono HBa.out.size)); have hb5z := HB5.out.size) | (at_builtin; refine wpList_append_lies _ rfl _ _ _ rfl w.heap.size 9 i0 _ 1 16 Tryz.underlying80 hi0 hq0 hq1 hq2 rfl (by omega) u5 l2.length _ rfl (HO5.out.alloc (.cells #[.string t] 9)) ⟨w5.heap.size, 0, none⟩ 1 1 (tC t) rfl rfl (World.news_of_block (cs := (tC t).toArray) (t := 9) (fr := (0, 0)) (Blk.new' _ _ _ (by simp))) (by simp [Value.oneCell', tC]) (by omega) (by unfold maxLen; omega) (by omega) (by simp; omega) (w5.heap.size + 1) (by simp) ?_; intro gg cap9 w9 hown9 hgrow hat hlt9))
              exact ⟨⟨j + 1, l2 ++ [t], by omega, by go_num, hl3, HL3, Lib.hid (app_own hown9), Lib.hid (app_keep HK5.out HO5.out _ hgrow (by decide)), Lib.hid (app_keep HZ5.out HO5.out _ hgrow (by decide)), Lib.hid (app_below HB5.out HO5.out _ hgrow)⟩, by simp [intOf]; omega⟩
            · obtain rfl : j = es.length := by omega
              rw [← HM.out] at hl2
              clear HZ2 fz fzl
              go_wp2_with fail
              exact ⟨⟨k + 1, l2, by omega, by go_num, hl2, HL2, HO2, HK2, HB2⟩, by simp [intOf]; omega⟩
        · obtain rfl : k = zs.length := by omega
          rw [List.take_length] at hl
          have kb := HK.out.cell
          have kbl := HK.out.lt
          go_wp2_with fail
          clear kb kbl
          go_loopw [5, 75] (fun v i wr => ∃ (k : Nat) (l : List ByteArray), k ≤ ls.length ∧ i = .int .i64 k ∧ l = rs.map ruX ++ zosX zs ++ (ls.take k).map lkX ∧ Hid (Lns l) ∧ Hid (wr.ownsRow w.heap.size 9 1 v l.length (l.map tC).flatten) ∧ Hid (Blk wr w.heap.size 26 #[.slice AR rs.length cR, .slice AZ zs.length cZ, .slice AL ls.length cL]) ∧ Hid (Below w.heap.size w wr)) (fun _ i _ => ls.length - (intOf i).toNat)
          case atStart => exact ⟨0, l, Nat.zero_le _, rfl, by rw [hl]; simp, HL, HO, HK, HB⟩
          case round =>
            have hl0 : (rs.map ruX ++ zosX zs).length ≤ 14060 := by rw [← hl]; exact hln
            clear HK HB HO HL hl hln hbz
            obtain ⟨k, l, hk, rfl, hl, HL, HO, HK, HB⟩ := hrel
            have hbz := HB.out.size
            have hln : l.length ≤ 14080 := by rw [hl, List.length_append, List.length_map, List.length_take]; omega
            by_cases hlt : k < ls.length
            · obtain ⟨b, o, rfl, hb, c0, c1⟩ := lk_at (show SlAt wr w.heap.size 2 AL (ls.map lkC) from HH.out.L.below HB.out) hlt
              have hb' : b < wr.heap.size := by omega
              have hi1 : (0 : Int) ≤ (k : Int) := by omega
              have hi2 : (k : Int) < (ls.length : Int) := by omega
              have hle := lE_inv (HV.out.2.2.2 k hlt)
              have hm := mapX_snoc lkX hlt
              rw [get_bang hlt] at hle
              obtain ⟨⟨a, t⟩, hx⟩ : ∃ x, ls[k] = x := ⟨_, rfl⟩
              simp only [hx] at c0 c1 hle hm
              clear hx
              have HL2 := Lib.hid (Lns.snoc HL.out (lkX_sz (x := (a, t)) hle))
              have hl2 : l ++ [lkX (a, t)] = rs.map ruX ++ zosX zs ++ (ls.take (k + 1)).map lkX := by rw [hl, hm, List.append_assoc]
              have ha := nm_sz hle.1
              have ht := nm_sz hle.2
              try simp only at ha ht
              have HO5 := Lib.hid (HO.out.alloc (.cells #[.string a, .string t] 57))
              have HK5 := Lib.hid (HK.out.alloc (.cells #[.string a, .string t] 57))
              have HB5 := Lib.hid (HB.out.alloc hbz (.cells #[.string a, .string t] 57))
              have HX := Lib.hid (Blk.new wr #[.string a, .string t] 57)
              clear hle hm hl HL HO HK HB
              go_upto_region 24 with fail
              obtain ⟨W, hW⟩ : ∃ W, wr.alloc (.cells #[.string a, .string t] 57) = W := ⟨_, rfl⟩
              rw [hW] at HO5 HK5 HB5 HX ⊢
              clear hW c0 c1
              have fx := HX.out.cell
              have fxl := HX.out.lt
              have hb5z := HB5.out.size
              go_wp2_with (at_builtin; refine wpList_append_lies _ rfl _ _ _ rfl w.heap.size 9 i0 _ 1 16 Tryz.underlying80 hi0 hq0 hq1 hq2 rfl (by omega) u5 l.length _ rfl (HO5.out.alloc (.cells #[.string (⟨#[108, 105, 110, 107, 32]⟩ ++ a ++ ⟨#[32]⟩ ++ t)] 9)) ⟨W.heap.size, 0, none⟩ 1 1 (tC (⟨#[108, 105, 110, 107, 32]⟩ ++ a ++ ⟨#[32]⟩ ++ t)) rfl rfl (World.news_of_block (cs := (tC (⟨#[108, 105, 110, 107, 32]⟩ ++ a ++ ⟨#[32]⟩ ++ t)).toArray) (t := 9) (fr := (0, 0)) (Blk.new' _ _ _ (by simp))) (by simp [Value.oneCell', tC]) (by omega) (by unfold maxLen; omega) (by omega) (by simp; omega) (W.heap.size + 1) (by simp) ?_; intro gg cap9 w9 hown9 hgrow hat hlt9)
              exact ⟨⟨k + 1, l ++ [⟨#[108, 105, 110, 107, 32]⟩ ++ a ++ ⟨#[32]⟩ ++ t], by omega, by go_num, hl2, HL2, Lib.hid (app_own hown9), Lib.hid (app_keep HK5.out HO5.out _ hgrow (by decide)), Lib.hid (app_below HB5.out HO5.out _ hgrow)⟩, by simp [intOf]; omega⟩
            · obtain rfl : k = ls.length := by omega
              rw [List.take_length] at hl
              have HJ := Lib.hid (joinN_join l)
              have hsz : (Lib.join (l.map (·.data.toList)) nl1.data.toList).length ≤ 140737488355328 := by have h8 := HL.out.size; rw [← HJ.out] at h8; have h9 : (⟨(Lib.join (l.map (·.data.toList)) nl1.data.toList).toArray⟩ : ByteArray).size = (Lib.join (l.map (·.data.toList)) nl1.data.toList).length := jl_size _; omega
              have HE := Lib.hid (show joinN l = joinN (bkX rs zs ls) by rw [hl]; rfl)
              obtain ⟨A3, cap3, rfl, g1, g2, hA3⟩ := own_at (xss := l.map tC) (by simpa using HO.out) (by intro xs hx; obtain ⟨t, _, rfl⟩ := List.mem_map.1 hx; rfl)
              rw [List.length_map] at g1 ⊢
              by_cases h0 : l = []
              · subst h0
                have HN := Lib.hid (Tryz.strings_Join_none A3 cap3 nl1 wr)
                clear HJ hsz hl HO hA3
                go_wp2_with fail
                refine HN.out.mono ?_
                rintro e w5 ⟨rfl, rfl⟩
                go_wp2_with fail
                go_ret2
                exact ⟨ret_sx HE.out rfl, HB.out⟩
              · have hpos : 0 < (l.map tC).length := by rw [List.length_map]; exact List.length_pos_iff.2 h0
                obtain ⟨b, o, rfl, hb, hc⟩ := hA3 hpos
                have HN := Lib.hid (Tryz.strings_Join b o cap3 l nl1 wr (fun j x hjx => by
                  have hj : j < l.length := (List.getElem?_eq_some_iff.1 hjx).1
                  have h8 := hc j (by rw [List.length_map]; exact hj) 0 (by omega)
                  rw [Nat.mul_one, Nat.add_zero] at h8; rw [h8]
                  have h9 : l[j] = x := (List.getElem?_eq_some_iff.1 hjx).2
                  simp [List.getD, hj, tC, h9]) hb (by omega) g1 hsz)
                rw [HJ.out] at HN
                clear HJ hsz hl HO hc
                go_wp2_with fail
                refine HN.out.mono ?_
                rintro e w5 ⟨rfl, hb5⟩
                go_wp2_with fail
                go_ret2
                exact ⟨ret_sx HE.out rfl, HB.out.trans (hb5.mono HB.out.size)⟩
set_option maxRecDepth 100000 in
set_option maxHeartbeats 1000000 in
theorem k_Text_no (AR AZ AL : Option Addr) (cR cZ cL : Nat) (rs : List RuT) (zs : List ZoT) (ls : List LkT) (w : World) (H : BkOk w w.heap.size ⟨AR, AZ, AL, cR, cZ, cL, rs, zs, ls⟩) (HI : EraIn w) (HT : TrimIn w) (n : Int) (h : bookE rs zs ls = n) (h0 : n ≠ 0) :
    Calls Tryz.prog 12 #[.agg #[.slice AR rs.length cR, .slice AZ zs.length cZ, .slice AL ls.length cL]] w fun e w' => e = .returned (.tuple #[.string ⟨#[]⟩, .int .i64 n]) ∧ Below w.heap.size w w' := by
  have X1 := TK.box w #[.slice AR rs.length cR, .slice AZ zs.length cZ, .slice AL ls.length cL] 26
  have HC := Lib.hid (c_Check' AR AZ AL cR cZ cL rs zs ls (w.alloc (.cells #[.slice AR rs.length cR, .slice AZ zs.length cZ, .slice AL ls.length cL] 26)) (H.step X1.2.2) (HI.on X1.2.2))
  rw [h] at HC
  have hcs := X1.1
  have HB0 := Lib.hid X1.2.2
  have hn0 : (n != 0) = true := by rw [bne_iff_ne]; exact h0
  clear X1 H HI HT h h0
  go_enter Tryz.func12, Tryz.ntmps12
  go_wp2_with fail
  refine HC.out.mono ?_
  rintro e w1 ⟨rfl, hb1⟩
  go_wp2_with fail
  go_ret2
  exact ⟨rfl, HB0.out.trans (hb1.mono HB0.out.size)⟩
end Go.Proofs.YtoakagkphkgcdaaGreatDoor
