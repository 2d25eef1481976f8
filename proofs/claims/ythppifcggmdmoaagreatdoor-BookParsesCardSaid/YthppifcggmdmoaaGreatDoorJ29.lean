/- Part 29 of the proof of BookParses: no condition; what its declarations say stands at each. -/
import Derived.Test.YthppifcggmdmoaaGreatDoorJ22
import Derived.Test.YthppifcggmdmoaaGreatDoorJ28
import Derived.Test.YthppifcggmdmoaaGreatDoorJ16
import Derived.Test.YthppifcggmdmoaaGreatDoorJ26
namespace Go.Proofs.YthppifcggmdmoaaGreatDoor
open Go.RowKit
set_option linter.unusedVariables false
theorem st_bad {s : ByteArray} (h : ¬ (s.data.toList.length = 19 ∧ ∀ i, i < 19 → okAt s.data.toList i)) : RdSt s 0 3 :=
 st_none (fun t h1 h2 => by obtain ⟨Y, M, D, H, I, S, f, _⟩ := st_form h1 h2; exact h (form_ok f))
theorem st_bad2 {s : ByteArray} {Y M D H I S : Nat} (f : FormL s.data.toList Y M D H I S) (h : ¬ (dayOk Y M D = true ∧ H ≤ 23 ∧ I ≤ 59 ∧ S ≤ 59)) : RdSt s 0 3 :=
 st_none (fun t h1 h2 => by
  obtain ⟨Y', M', D', H', I', S', f', a, b, c, d, _⟩ := st_form h1 h2
  obtain ⟨rfl, rfl, rfl, rfl, rfl, rfl⟩ := form_one f f'
  exact h ⟨a, b, c, d⟩)
theorem idx_at {s : ByteArray} {k : Nat} {c : UInt8} (z : Int) (hz : z = k) (hk : k < s.size) (hc : s[k]'hk = c) (w : World) : (Instr.index 9 (.string s) (.int .i64 z)).run Tryz.prog w = .ok (.int .u8 (c.toNat : Int)) w := by
 subst hz
 rw [run_index_string w _ _ _ _ Tryz.underlying9, dif_pos (by omega)]
 simp [hc]
def frmB : ByteArray := ⟨#[48, 48, 48, 48, 45, 48, 48, 45, 48, 48, 84, 48, 48, 58, 48, 48, 58, 48, 48]⟩
theorem okAt_step {l : List UInt8} {k : Nat} (h : ∀ j, j < k → okAt l j) (h2 : okAt l k) : ∀ j, j < k + 1 → okAt l j := fun j hj => by
 by_cases e : j = k
 ·rw [e]; exact h2
 ·exact h j (by omega)
theorem dgs2 {a b : Nat} (ha : a < 10) (hb : b < 10) : ∀ z ∈ [dgC a, dgC b], isDg z := fun z hz => by
 simp at hz
 rcases hz with rfl | rfl
 ·exact dgC_dg ha
 ·exact dgC_dg hb
theorem form_dgs {l : List UInt8} {Y M D H I S : Nat} (F : FormL l Y M D H I S) : (∀ z ∈ (l.drop 0).take 4, isDg z) ∧ (∀ z ∈ (l.drop 5).take 2, isDg z) ∧ (∀ z ∈ (l.drop 8).take 2, isDg z) ∧ (∀ z ∈ (l.drop 11).take 2, isDg z) ∧ (∀ z ∈ (l.drop 14).take 2, isDg z) ∧ (∀ z ∈ (l.drop 17).take 2, isDg z) := by
 obtain ⟨a, b, c, d, e, f, g, h', i, j, k, m, n, o, q1, q2, q3, q4, q5, q6, rfl, _⟩ := F
 refine ⟨fun z hz => ?_, dgs2 q2.1 q2.2, dgs2 q3.1 q3.2, dgs2 q4.1 q4.2, dgs2 q5.1 q5.2, dgs2 q6.1 q6.2⟩
 have hz' : z ∈ [dgC a, dgC b, dgC c, dgC d] := hz
 simp at hz'
 rcases hz' with rfl | rfl | rfl | rfl
 ·exact dgC_dg q1.1
 ·exact dgC_dg q1.2.1
 ·exact dgC_dg q1.2.2.1
 ·exact dgC_dg q1.2.2.2
set_option maxRecDepth 100000 in
set_option maxHeartbeats 2000000 in
theorem r_stat (g i n : Nat) (s : ByteArray) (w : World) (hB : Blk w g 9 #[.string s]) (hi : i + n ≤ s.size) (hn : n ≤ 4) (hs : s.size ≤ 100) (hd : ∀ c ∈ (s.data.toList.drop i).take n, isDg c) :
  Calls Tryz.prog 65 #[.int .i64 i, .int .i64 n, .pointer (some ⟨g, 0, none⟩)] w fun e w' => e = .returned (.int .i64 (dgV ((s.data.toList.drop i).take n) : Nat)) ∧ Below w.heap.size w w' := by
 have hc := hB.cell 0
 have hl := hB.lt
 simp at hc
 obtain ⟨x, hx⟩ : ∃ x, s.extract i (i + n) = x := ⟨_, rfl⟩
 have HXL := Lib.hid (show x.data.toList = (s.data.toList.drop i).take n by rw [← hx, Lib.extract_data, Nat.add_sub_cancel_left])
 have hxz : x.size = n := by rw [← hx, ByteArray.size_extract]; omega
 rw [← HXL.out] at hd ⊢
 have HDG := Lib.hid hd
 obtain ⟨W2, cap2, hrun, hcell, hb2, hz2⟩ := conv_facts w x
 rw [hxz] at hrun
 have HXZ := Lib.hid hxz
 have HC2 := Lib.hid hcell
 have HB2 := Lib.hid hb2
 have i1 : (0 : Int) ≤ (i : Int) := by omega
 have i2 : (i : Int) ≤ (i : Int) + (n : Int) := by omega
 have i3 : (i : Int) + (n : Int) ≤ (s.size : Int) := by omega
 have i4 : IntKind.i64.wrap ((i : Int) + (n : Int)) = ((i + n : Nat) : Int) := by rw [IntWalk.i64_in _ (by omega)]; simp
 clear hcell hb2 hz2 hd hB hxz
 go_enter Tryz.func65, Tryz.ntmps65
 go_wp2_with fail
 clear hrun hc hl
 go_loop [6, 17] (fun kv j => ∃ p : Nat, p ≤ n ∧ j = .int .i64 p ∧ kv = .int .i64 (dgV (x.data.toList.take p) : Nat)) (fun _ j => n - (intOf j).toNat)
 case atStart => exact ⟨0, by omega, rfl, rfl⟩
 case round =>
  obtain ⟨p, hp, rfl, rfl⟩ := hrel
  have e2 := Lib.hid (show x.data.toList.length = n by rw [← Lib.size_eq]; exact HXZ.out)
  by_cases hpl : p < n
  ·have hc : W2.cell? ⟨w.heap.size, p, none⟩ = some (.int .u8 ((x.data.toList.getD p 0).toNat : Int)) := HC2.out p (by rw [HXZ.out]; exact hpl)
   have HTS := Lib.hid (take_snoc (l := x.data.toList) (j := p) (by rw [e2.out]; exact hpl))
   have hcd : isDg (x.data.toList.getD p 0) := HDG.out _ (getD_in (by rw [e2.out]; exact hpl))
   have h9 : dgV (x.data.toList.take p) < 10 ^ 4 := Nat.lt_of_lt_of_le (dgV_lt _ _ rfl (fun c hc => HDG.out c (List.mem_of_mem_take hc))) (Nat.pow_le_pow_right (by decide) (by rw [List.length_take]; omega))
   obtain ⟨c, hcc⟩ : ∃ c, x.data.toList.getD p 0 = c := ⟨_, rfl⟩
   rw [hcc] at hc HTS hcd
   clear hcc
   unfold isDg at hcd
   obtain ⟨cn, hcn⟩ : ∃ n : Nat, c.toNat = n := ⟨_, rfl⟩
   rw [hcn] at hc hcd
   have HCN := Lib.hid hcn
   clear hcn
   obtain ⟨d, hdv⟩ : ∃ d, dgV (x.data.toList.take p) = d := ⟨_, rfl⟩
   rw [hdv] at h9 ⊢
   have HDV := Lib.hid hdv
   clear hdv
   go_wp2_with fail
   refine ⟨⟨p + 1, by omega, by go_num, ?_⟩, by simp [intOf]; omega⟩
   rw [HTS.out, dgV_snoc, HDV.out, HCN.out]; go_num
  ·obtain rfl : p = n := by omega
   have htk : x.data.toList.take p = x.data.toList := List.take_of_length_le (by rw [e2.out]; omega)
   rw [htk]
   clear htk
   go_wp2_with fail
   go_ret
   exact ⟨rfl, HB2.out⟩
set_option maxRecDepth 100000 in
set_option maxHeartbeats 8000000 in
theorem r_StampRead (s : ByteArray) (w : World) (hs : s.size ≤ 4294967296) :
  Calls Tryz.prog 28 #[.string s] w fun e w' => ∃ a b, e = .returned (.tuple #[.int .i64 a, .int .i64 b]) ∧ RdSt s a b ∧ Below w.heap.size w w' := by
 have HD := Lib.hid (Blk.new w #[.string s] 9)
 have HB := Lib.hid ((Below.refl w.heap.size w).alloc (Nat.le_refl _) (.cells #[.string s] 9))
 obtain ⟨W, hW⟩ : ∃ W, w.alloc (.cells #[.string s] 9) = W := ⟨_, rfl⟩
 rw [hW] at HD HB
 have f0 := HD.out.cell 0
 have fl := HD.out.lt
 simp at f0
 by_cases h19 : ¬ s.size = 19
 ·have h7 : ((s.size : Int) == 19) = false := by rw [beq_eq_false_iff_ne]; omega
  have HR := Lib.hid (st_bad (s := s) (fun h => h19 (by rw [Lib.size_eq]; exact h.1)))
  clear HD
  go_enter Tryz.func28, Tryz.ntmps28
  go_wp2_with fail
  go_ret2
  exact ⟨_, _, rfl, HR.out, HB.out⟩
 have h19' : s.size = 19 := by omega
 have h7 : ((s.size : Int) == 19) = true := by rw [h19']; rfl
 have h8 : (s.size : Int) = 19 := by omega
 clear h19
 go_enter Tryz.func28, Tryz.ntmps28
 go_wp2_with fail
 try rw [hW]
 clear hW f0 fl
 go_loopw [13] (fun i wr => ∃ k : Nat, k ≤ 19 ∧ i = .int .i64 k ∧ Blk wr w.heap.size 9 #[.string s] ∧ Below w.heap.size w wr ∧ Hid (∀ j, j < k → okAt s.data.toList j)) (fun i _ => 19 - (intOf i).toNat)
 case atStart => exact ⟨0, by omega, rfl, HD.out, HB.out, Lib.hid (fun j hj => by omega)⟩
 case round =>
  clear HB HD
  obtain ⟨k, hk, rfl, hD, hB, HN⟩ := hrel
  have HB := Lib.hid hB
  have HD := Lib.hid hD
  have f0 := hD.cell 0
  have fl := hD.lt
  simp at f0
  clear hB hD
  have hk2 : (k : Int) ≤ 19 := by omega
  by_cases hlt : k < 19
  ·have hi2 : (k : Int) < 19 := by omega
   have hk19 : k < s.size := by omega
   have HGA := Lib.hid (get_at hk19)
   obtain ⟨c, hc⟩ : ∃ c, s[k] = c := ⟨_, rfl⟩
   have HCC := Lib.hid (show s.data.toList.getD k 0 = c by rw [← HGA.out]; exact hc)
   have hix := idx_at (s := s) (k : Int) rfl hk19 hc
   obtain ⟨fb, hfb⟩ : ∃ f, frmL.getD k 0 = f := ⟨_, rfl⟩
   have hkf : k < frmB.size := by show k < 19; omega
   have hif : ∀ w, (Instr.index 9 (.string ⟨#[48, 48, 48, 48, 45, 48, 48, 45, 48, 48, 84, 48, 48, 58, 48, 48, 58, 48, 48]⟩) (.int .i64 (k : Int))).run Tryz.prog w = .ok (.int .u8 (fb.toNat : Int)) w := fun w => idx_at (s := frmB) (c := fb) (k : Int) rfl hkf (by rw [get_at hkf]; exact hfb) w
   have HFB := Lib.hid hfb
   clear hc HGA hfb hkf hk19
   obtain ⟨cn, hcn⟩ : ∃ n : Nat, c.toNat = n := ⟨_, rfl⟩
   have HCN := Lib.hid hcn
   rw [hcn] at hix
   clear hcn
   by_cases hf : fb = 48
   ·subst hf
    replace hif : ∀ w, (Instr.index 9 (.string ⟨#[48, 48, 48, 48, 45, 48, 48, 45, 48, 48, 84, 48, 48, 58, 48, 48, 58, 48, 48]⟩) (.int .i64 (k : Int))).run Tryz.prog w = .ok (.int .u8 48) w := hif
    by_cases q1 : cn < 48
    ·have q2 : (cn : Int) < 48 := by omega
     have HR := Lib.hid (st_bad (s := s) (fun h => by have := h.2 k (by omega); unfold okAt at this; rw [HCC.out, HFB.out] at this; exact this.elim (fun h => by have := h.2; unfold isDg at this; rw [HCN.out] at this; omega) (fun h => h.1 rfl)))
     go_wp2_with fail
     go_quiet (fail)
     go_wp2_with fail
     go_ret2
     exact ⟨_, _, rfl, HR.out, below_drewN HB.out _⟩
    ·by_cases q3 : 57 < cn
     ·have q2 : ¬ (cn : Int) < 48 := by omega
      have q4 : (57 : Int) < (cn : Int) := by omega
      have HR := Lib.hid (st_bad (s := s) (fun h => by have := h.2 k (by omega); unfold okAt at this; rw [HCC.out, HFB.out] at this; exact this.elim (fun h => by have := h.2; unfold isDg at this; rw [HCN.out] at this; omega) (fun h => h.1 rfl)))
      go_wp2_with fail
      go_quiet (fail)
      go_wp2_with fail
      go_ret2
      exact ⟨_, _, rfl, HR.out, below_drewN HB.out _⟩
     ·have q2 : ¬ (cn : Int) < 48 := by omega
      have q4 : ¬ (57 : Int) < (cn : Int) := by omega
      have HN2 := Lib.hid (okAt_step HN.out (show okAt s.data.toList k from by unfold okAt; rw [HCC.out, HFB.out]; exact Or.inl ⟨rfl, by unfold isDg; rw [HCN.out]; omega⟩))
      go_wp2_with fail
      go_quiet (fail)
      go_wp2_with fail
      exact ⟨⟨k + 1, by omega, by go_num, (HD.out.drewN _), below_drewN HB.out _, HN2⟩, by simp only [intOf]; omega⟩
   ·obtain ⟨fn, hfn⟩ : ∃ n : Nat, fb.toNat = n := ⟨_, rfl⟩
    have HFN := Lib.hid hfn
    rw [hfn] at hif
    clear hfn
    have q5 : ((fn : Int) == 48) = false := by rw [beq_eq_false_iff_ne]; intro e; exact hf (UInt8.toNat_inj.1 (by rw [HFN.out]; show fn = 48; omega))
    have q6 : ((fn : Int) != 48) = true := by rw [bne_iff_ne]; rw [beq_eq_false_iff_ne] at q5; exact q5
    have HFF := Lib.hid hf
    clear hf
    by_cases q1 : cn = fn
    ·subst q1
     have HN2 := Lib.hid (okAt_step HN.out (show okAt s.data.toList k from by unfold okAt; rw [HCC.out, HFB.out]; exact Or.inr ⟨HFF.out, UInt8.toNat_inj.1 (by rw [HCN.out, HFN.out])⟩))
     go_wp2_with fail
     go_quiet (fail)
     go_wp2_with fail
     exact ⟨⟨k + 1, by omega, by go_num, (HD.out.drewN _), below_drewN HB.out _, HN2⟩, by simp only [intOf]; omega⟩
    ·have q2 : ((cn : Int) == (fn : Int)) = false := by rw [beq_eq_false_iff_ne]; omega
     have q7 : ((cn : Int) != (fn : Int)) = true := by rw [bne_iff_ne]; omega
     have HR := Lib.hid (st_bad (s := s) (fun h => by have := h.2 k (by omega); unfold okAt at this; rw [HCC.out, HFB.out] at this; exact this.elim (fun h => HFF.out h.1) (fun h => q1 (by rw [← HCN.out, ← HFN.out, h.2]))))
     go_wp2_with fail
     go_quiet (fail)
     go_wp2_with fail
     go_ret2
     exact ⟨_, _, rfl, HR.out, below_drewN HB.out _⟩
  obtain rfl : k = 19 := by omega
  obtain ⟨Y, M, D, H, I, S, F⟩ := ok_form (l := s.data.toList) (by rw [← Lib.size_eq]; exact h19') HN.out
  have HF := Lib.hid F
  obtain ⟨a1, a2, a3, a4, a5, a6⟩ := form_at F
  have hb : Y ≤ 9999 ∧ M ≤ 99 ∧ D ≤ 99 ∧ H ≤ 99 ∧ I ≤ 99 ∧ S ≤ 99 := by obtain ⟨a, b, c, d, e, f, g, h', i, j, k, m, n, o, q1, q2, q3, q4, q5, q6, hl, rfl, rfl, rfl, rfl, rfl, rfl⟩ := F; omega
  have HDG := Lib.hid (form_dgs F)
  clear F
  have HC0 := Lib.hid (fun (V : World) (hV : Blk V w.heap.size 9 #[.string s]) => (show Calls Tryz.prog 65 #[.int .i64 0, .int .i64 4, .pointer (some ⟨w.heap.size, 0, none⟩)] V (fun e w' => e = .returned (.int .i64 (Y : Nat)) ∧ Below V.heap.size V w') from by rw [← a1]; exact r_stat w.heap.size 0 4 s V hV (by omega) (by omega) (by omega) HDG.out.1))
  have HC1 := Lib.hid (fun (V : World) (hV : Blk V w.heap.size 9 #[.string s]) => (show Calls Tryz.prog 65 #[.int .i64 5, .int .i64 2, .pointer (some ⟨w.heap.size, 0, none⟩)] V (fun e w' => e = .returned (.int .i64 (M : Nat)) ∧ Below V.heap.size V w') from by rw [← a2]; exact r_stat w.heap.size 5 2 s V hV (by omega) (by omega) (by omega) HDG.out.2.1))
  have HC2 := Lib.hid (fun (V : World) (hV : Blk V w.heap.size 9 #[.string s]) => (show Calls Tryz.prog 65 #[.int .i64 8, .int .i64 2, .pointer (some ⟨w.heap.size, 0, none⟩)] V (fun e w' => e = .returned (.int .i64 (D : Nat)) ∧ Below V.heap.size V w') from by rw [← a3]; exact r_stat w.heap.size 8 2 s V hV (by omega) (by omega) (by omega) HDG.out.2.2.1))
  have HC3 := Lib.hid (fun (V : World) (hV : Blk V w.heap.size 9 #[.string s]) => (show Calls Tryz.prog 65 #[.int .i64 11, .int .i64 2, .pointer (some ⟨w.heap.size, 0, none⟩)] V (fun e w' => e = .returned (.int .i64 (H : Nat)) ∧ Below V.heap.size V w') from by rw [← a4]; exact r_stat w.heap.size 11 2 s V hV (by omega) (by omega) (by omega) HDG.out.2.2.2.1))
  have HC4 := Lib.hid (fun (V : World) (hV : Blk V w.heap.size 9 #[.string s]) => (show Calls Tryz.prog 65 #[.int .i64 14, .int .i64 2, .pointer (some ⟨w.heap.size, 0, none⟩)] V (fun e w' => e = .returned (.int .i64 (I : Nat)) ∧ Below V.heap.size V w') from by rw [← a5]; exact r_stat w.heap.size 14 2 s V hV (by omega) (by omega) (by omega) HDG.out.2.2.2.2.1))
  have HC5 := Lib.hid (fun (V : World) (hV : Blk V w.heap.size 9 #[.string s]) => (show Calls Tryz.prog 65 #[.int .i64 17, .int .i64 2, .pointer (some ⟨w.heap.size, 0, none⟩)] V (fun e w' => e = .returned (.int .i64 (S : Nat)) ∧ Below V.heap.size V w') from by rw [← a6]; exact r_stat w.heap.size 17 2 s V hV (by omega) (by omega) (by omega) HDG.out.2.2.2.2.2))
  clear a1 a2 a3 a4 a5 a6
  clear f0 fl
  go_wp2_with fail
  refine (HC0.out _ HD.out).mono ?_
  rintro e u0 ⟨rfl, hb1⟩
  replace HB := Lib.hid (HB.out.trans (hb1.mono (Nat.le_of_lt HD.out.lt)))
  replace HD := Lib.hid (HD.out.step hb1)
  clear hb1
  go_wp2_with fail
  refine (HC1.out _ HD.out).mono ?_
  rintro e u1 ⟨rfl, hb1⟩
  replace HB := Lib.hid (HB.out.trans (hb1.mono (Nat.le_of_lt HD.out.lt)))
  replace HD := Lib.hid (HD.out.step hb1)
  clear hb1
  go_wp2_with fail
  refine (HC2.out _ HD.out).mono ?_
  rintro e u2 ⟨rfl, hb1⟩
  replace HB := Lib.hid (HB.out.trans (hb1.mono (Nat.le_of_lt HD.out.lt)))
  replace HD := Lib.hid (HD.out.step hb1)
  clear hb1
  go_wp2_with fail
  refine (r_Days Y M D _).mono ?_
  rintro e u3 ⟨rfl, hb1⟩
  replace HB := Lib.hid (HB.out.trans (hb1.mono (Nat.le_of_lt HD.out.lt)))
  replace HD := Lib.hid (HD.out.step hb1)
  clear hb1
  by_cases hd : ¬ dayOk Y M D = true
  ·have hd' := Bool.eq_false_iff.2 hd
   have HR := Lib.hid (st_bad2 HF.out (fun h => hd h.1))
   rw [daysV_no hd', daysE_no hd']
   clear hd hd'
   go_wp2_with fail
   go_ret2
   exact ⟨_, _, rfl, HR.out, HB.out⟩
  have hd' : dayOk Y M D = true := Classical.not_not.1 hd
  clear hd
  rw [daysV_ok hd', daysE_ok hd']
  have HDO := Lib.hid hd'
  have hnd : -200000 ≤ daysN Y M D ∧ daysN Y M D ≤ 200000 := by have := days_in hd'; simp [dateOk] at this; omega
  obtain ⟨dn, hdn⟩ : ∃ d, daysN Y M D = d := ⟨_, rfl⟩
  have HDN := Lib.hid hdn
  rw [hdn] at hnd ⊢
  clear hdn hd'
  go_wp2_with fail
  refine (HC3.out _ HD.out).mono ?_
  rintro e u4 ⟨rfl, hb1⟩
  replace HB := Lib.hid (HB.out.trans (hb1.mono (Nat.le_of_lt HD.out.lt)))
  replace HD := Lib.hid (HD.out.step hb1)
  clear hb1
  by_cases hH : 23 < H
  ·have xH : (23 : Int) < (H : Int) := by omega
   have HR := Lib.hid (st_bad2 HF.out (fun h => by omega))
   go_wp2_with fail
   go_ret2
   exact ⟨_, _, rfl, HR.out, HB.out⟩
  have xH : ¬ (23 : Int) < (H : Int) := by omega
  go_wp2_with fail
  refine (HC4.out _ HD.out).mono ?_
  rintro e u5 ⟨rfl, hb1⟩
  replace HB := Lib.hid (HB.out.trans (hb1.mono (Nat.le_of_lt HD.out.lt)))
  replace HD := Lib.hid (HD.out.step hb1)
  clear hb1
  by_cases hI : 59 < I
  ·have xI : (59 : Int) < (I : Int) := by omega
   have HR := Lib.hid (st_bad2 HF.out (fun h => by omega))
   go_wp2_with fail
   go_ret2
   exact ⟨_, _, rfl, HR.out, HB.out⟩
  have xI : ¬ (59 : Int) < (I : Int) := by omega
  go_wp2_with fail
  refine (HC5.out _ HD.out).mono ?_
  rintro e u6 ⟨rfl, hb1⟩
  replace HB := Lib.hid (HB.out.trans (hb1.mono (Nat.le_of_lt HD.out.lt)))
  replace HD := Lib.hid (HD.out.step hb1)
  clear hb1
  by_cases hS : 59 < S
  ·have xS : (59 : Int) < (S : Int) := by omega
   have HR := Lib.hid (st_bad2 HF.out (fun h => by omega))
   go_wp2_with fail
   go_ret2
   exact ⟨_, _, rfl, HR.out, HB.out⟩
  have xS : ¬ (59 : Int) < (S : Int) := by omega
  go_wp2_with fail
  refine (HC3.out _ HD.out).mono ?_
  rintro e u7 ⟨rfl, hb1⟩
  replace HB := Lib.hid (HB.out.trans (hb1.mono (Nat.le_of_lt HD.out.lt)))
  replace HD := Lib.hid (HD.out.step hb1)
  clear hb1
  go_wp2_with fail
  refine (HC4.out _ HD.out).mono ?_
  rintro e u8 ⟨rfl, hb1⟩
  replace HB := Lib.hid (HB.out.trans (hb1.mono (Nat.le_of_lt HD.out.lt)))
  replace HD := Lib.hid (HD.out.step hb1)
  clear hb1
  go_wp2_with fail
  refine (HC5.out _ HD.out).mono ?_
  rintro e u9 ⟨rfl, hb1⟩
  replace HB := Lib.hid (HB.out.trans (hb1.mono (Nat.le_of_lt HD.out.lt)))
  replace HD := Lib.hid (HD.out.step hb1)
  clear hb1
  go_wp2_with fail
  have HE := Lib.hid (show wrap64 (wrap64 (wrap64 (wrap64 (86400 * dn) + wrap64 (3600 * (H : Int))) + wrap64 (60 * (I : Int))) + (S : Int)) = 86400 * dn + 3600 * H + 60 * I + S from by unfold wrap64; omega)
  have HR := Lib.hid (show RdSt s (86400 * dn + 3600 * H + 60 * I + S) 0 from by have f := form_st HF.out HDO.out (by omega) (by omega) (by omega); rw [HDN.out] at f; exact Or.inl ⟨f.1, f.2, rfl⟩)
  try rw [HE.out]
  go_ret2
  exact ⟨_, _, rfl, HR.out, HB.out⟩
end Go.Proofs.YthppifcggmdmoaaGreatDoor

