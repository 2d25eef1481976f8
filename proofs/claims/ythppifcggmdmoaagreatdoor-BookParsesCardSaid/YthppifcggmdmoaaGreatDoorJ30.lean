/- Part 30 of the proof of BookParses: no condition; what its declarations say stands at each. -/
import Derived.Test.YthppifcggmdmoaaGreatDoorJ09
import Derived.Test.YthppifcggmdmoaaGreatDoorJ28
import Derived.Test.YthppifcggmdmoaaGreatDoorJ02
import Derived.Test.YthppifcggmdmoaaGreatDoorJ03
import Derived.Test.YthppifcggmdmoaaGreatDoorJ16
import Derived.Laws.IdiomStrings
namespace Go.Proofs.YthppifcggmdmoaaGreatDoor
open Go.RowKit
set_option linter.unusedVariables false
set_option linter.unusedSimpArgs false
attribute [local go_sem ↓] Go.wp_at_zero Go.wp_at_succ
set_option maxHeartbeats 1000000 in
theorem r_DigitsN (n : Nat) (hn : n < 1000000000) : ∀ w : World,
  Calls Tryz.prog 111 #[.int .i64 n] w fun e w' => e = .returned (.string ⟨(Lib.decDigits n).toArray⟩) ∧ Below w.heap.size w w' := by
 induction n using Nat.strongRecOn with
 | ind n ih =>
  intro w
  by_cases h1 : n < 10
  ·exact r_Digits n (by omega) w
  ·have HV := Lib.hid (dec_join h1)
   have HI := Lib.hid (ih (n / 10) (by omega) (by omega))
   have hl := dec_len (n / 10)
   clear ih
   obtain ⟨q, hq⟩ : ∃ q, n / 10 = q := ⟨_, rfl⟩
   obtain ⟨r, hr⟩ : ∃ r, n % 10 = r := ⟨_, rfl⟩
   rw [hq] at HI hl
   rw [hq, hr] at HV
   have e1 : ((n : Int)).tdiv 10 = (q : Int) := by rw [Int.tdiv_eq_ediv_of_nonneg (by omega)]; omega
   have e2 : ((n : Int)).tmod 10 = (r : Int) := by rw [Int.tmod_eq_emod_of_nonneg (by omega)]; omega
   have e3 : ((n : Int)) / 10 = (q : Int) := by omega
   have e4 : ((n : Int)) % 10 = (r : Int) := by omega
   have hq9 : q < 1000000000 := by omega
   have hr9 : r < 10 := by omega
   have HC := Lib.hid (show (48 + (r : Int)).toNat = 48 + r by omega)
   clear hq hr
   go_enter Tryz.func111, Tryz.ntmps111
   go_wp2_with fail
   refine (HI.out _).mono ?_
   rintro e w1 ⟨rfl, hb⟩
   go_wp2_with fail
   refine (r_chr _ (by omega) (by omega) _).mono ?_
   rintro e w2 ⟨rfl, hb2⟩
   go_wp2_with fail
   go_ret
   exact ⟨congrArg (fun v => Ending.returned (.string v)) ((congrArg (fun z => (⟨(Lib.decDigits q).toArray⟩ : ByteArray) ++ ⟨#[UInt8.ofNat z]⟩) HC.out).trans HV.out), hb.trans (hb2.mono hb.size)⟩
theorem num_none {l : List UInt8} (h : ∀ m : Nat, m ≤ 999999999 → Lib.decDigits m ≠ l) : NumIs l 0 false := Or.inr ⟨rfl, h⟩
theorem dgV_nine {l : List UInt8} (h : l.length ≤ 9) (hd : ∀ c ∈ l, isDg c) : dgV l ≤ 999999999 := by
 have h1 := dgV_lt l.length l rfl hd
 have h2 : (10 : Nat) ^ l.length ≤ 10 ^ 9 := Nat.pow_le_pow_right (by decide) h
 omega
theorem dec_ten {m : Nat} (h : m ≤ 999999999) : (Lib.decDigits m).length ≤ 9 := by
 have hd : ∀ (k n : Nat), n < 10 ^ (k + 1) → (Lib.decDigits n).length ≤ k + 1 := by
  intro k
  induction k with
  | zero => intro n hn; rw [dec_small (by omega)]; exact Nat.le_refl _
  | succ k ih =>
   intro n hn
   by_cases h1 : n < 10
   ·rw [dec_small h1]; simp
   ·rw [dec_more h1, List.length_append]
    have := ih (n / 10) (by rw [Nat.pow_succ] at hn; omega)
    simp; omega
 exact hd 8 m (by omega)
set_option maxRecDepth 100000 in
set_option maxHeartbeats 4000000 in
theorem r_numeral (s : ByteArray) (w : World) :
  Calls Tryz.prog 58 #[.string s] w fun e w' => ∃ n ok, e = .returned (.tuple #[.int .i64 n, .bool ok]) ∧ NumIs s.data.toList n ok ∧ Below w.heap.size w w' := by
 have e2 := Lib.hid (show s.size = s.data.toList.length from Lib.size_eq _)
 by_cases h0 : s.size = 0
 ·have hl : s.data.toList = [] := by rw [← List.length_eq_zero_iff]; rw [← e2.out]; exact h0
  have hem : s.toList.isEmpty = true := by rw [ByteArray.toList_eq, hl]; rfl
  have HR := Lib.hid (num_none (l := s.data.toList) (fun m _ e => by have h1 := dec_pos m; rw [e, hl] at h1; simp at h1))
  clear h0 hl
  go_enter Tryz.func58, Tryz.ntmps58
  go_wp2_with fail
  go_ret2
  exact ⟨_, _, rfl, HR.out, Below.refl _ _⟩
 have hem : s.toList.isEmpty = false := by
  rw [ByteArray.toList_eq]
  cases h : s.data.toList with
  | nil => rw [e2.out, h] at h0; exact absurd rfl h0
  | cons a b => rfl
 by_cases h9 : 9 < s.size
 ·have h9' : (9 : Int) < (s.size : Int) := by omega
  have HR := Lib.hid (num_none (l := s.data.toList) (fun m hm e => by have h1 := dec_ten hm; rw [e, ← e2.out] at h1; omega))
  clear h0 h9
  go_enter Tryz.func58, Tryz.ntmps58
  go_wp2_with fail
  go_ret2
  exact ⟨_, _, rfl, HR.out, Below.refl _ _⟩
 have h9' : ¬ (9 : Int) < (s.size : Int) := by omega
 obtain ⟨W2, cap2, hrun, hcell, hb2, hz2⟩ := conv_facts w s
 have HC2 := Lib.hid hcell
 have HB2 := Lib.hid hb2
 have hwz : w.heap.size < W2.heap.size := by omega
 clear hcell hb2 hz2
 go_enter Tryz.func58, Tryz.ntmps58
 go_wp2_with fail
 clear hrun
 go_loop [4, 17] (fun kv j => ∃ i : Nat, i ≤ s.size ∧ j = .int .i64 i ∧ kv = .int .i64 (dgV (s.data.toList.take i) : Nat) ∧ Hid (∀ c ∈ s.data.toList.take i, isDg c)) (fun _ j => s.size - (intOf j).toNat)
 case atStart => exact ⟨0, by omega, rfl, rfl, Lib.hid (fun c hc => by simp at hc)⟩
 case round =>
  obtain ⟨i, hi, rfl, rfl, HD⟩ := hrel
  by_cases hil : i < s.size
  ·have hc : W2.cell? ⟨w.heap.size, i, none⟩ = some (.int .u8 ((s.data.toList.getD i 0).toNat : Int)) := HC2.out i hil
   have HTS := Lib.hid (take_snoc (l := s.data.toList) (j := i) (by have := e2.out; omega))
   have hgi := Lib.hid (getD_in (l := s.data.toList) (j := i) (by have := e2.out; omega))
   have h99 : dgV (s.data.toList.take i) ≤ 999999999 := dgV_nine (by rw [List.length_take]; have := e2.out; omega) HD.out
   obtain ⟨c, hcc⟩ : ∃ c, s.data.toList.getD i 0 = c := ⟨_, rfl⟩
   rw [hcc] at hc HTS hgi
   clear hcc
   obtain ⟨d, hd⟩ : ∃ d, dgV (s.data.toList.take i) = d := ⟨_, rfl⟩
   rw [hd] at h99 ⊢
   have HDV := Lib.hid hd
   clear hd
   have hcb : c.toNat < 256 := c.toNat_lt
   by_cases q1 : c.toNat < 48
   ·have q2 : ((c.toNat : Nat) : Int) < 48 := by omega
    have HR := Lib.hid (num_none (l := s.data.toList) (fun m hm e => by have h1 := dec_dg m c (by rw [e]; exact hgi.out); unfold isDg at h1; omega))
    go_wp2_with fail
    go_ret2
    exact ⟨_, Or.inl ⟨rfl, HR.out, HB2.out⟩⟩
   by_cases q3 : 57 < c.toNat
   ·have q2 : ¬ ((c.toNat : Nat) : Int) < 48 := by omega
    have q4 : (57 : Int) < ((c.toNat : Nat) : Int) := by omega
    have HR := Lib.hid (num_none (l := s.data.toList) (fun m hm e => by have h1 := dec_dg m c (by rw [e]; exact hgi.out); unfold isDg at h1; omega))
    go_wp2_with fail
    go_ret2
    exact ⟨_, Or.inl ⟨rfl, HR.out, HB2.out⟩⟩
   have q2 : ¬ ((c.toNat : Nat) : Int) < 48 := by omega
   have q4 : ¬ (57 : Int) < ((c.toNat : Nat) : Int) := by omega
   obtain ⟨cn, hcn⟩ : ∃ n : Nat, c.toNat = n := ⟨_, rfl⟩
   rw [hcn] at hc hcb q1 q2 q3 q4
   have HCN := Lib.hid hcn
   clear hcn
   go_wp2_with fail
   refine ⟨⟨i + 1, by omega, by go_num, ?_, Lib.hid ?_⟩, by simp [intOf]; omega⟩
   ·rw [HTS.out, dgV_snoc, HDV.out, HCN.out]; go_num
   ·rw [HTS.out]; intro x hx; rcases List.mem_append.1 hx with hx | hx
    ·exact HD.out x hx
    ·obtain rfl := List.mem_singleton.1 hx; unfold isDg; rw [HCN.out]; omega
  ·obtain rfl : i = s.size := by omega
   have htk : s.data.toList.take s.size = s.data.toList := List.take_of_length_le (by have := e2.out; omega)
   rw [htk] at HD ⊢
   clear htk
   have h99 : dgV s.data.toList ≤ 999999999 := dgV_nine (by have := e2.out; omega) HD.out
   obtain ⟨d, hd⟩ : ∃ d, dgV s.data.toList = d := ⟨_, rfl⟩
   rw [hd] at h99 ⊢
   have HDV := Lib.hid hd
   clear hd
   have HDg := Lib.hid (r_DigitsN d (by omega) W2)
   go_wp2_with fail
   refine HDg.out.mono ?_
   rintro e w3 ⟨rfl, hb3⟩
   replace HB2 := Lib.hid (HB2.out.trans (hb3.mono HB2.out.size))
   clear hb3 HDg
   obtain ⟨t, ht⟩ : ∃ t : ByteArray, (⟨(Lib.decDigits d).toArray⟩ : ByteArray) = t := ⟨_, rfl⟩
   rw [ht]
   have HT := Lib.hid ht
   clear ht
   by_cases hts : t = s
   ·have hb : (t.toList == s.toList) = true := by rw [hts]; exact beq_self_eq_true _
    have HR := Lib.hid (show NumIs s.data.toList (d : Int) true from Or.inl ⟨rfl, by omega, by omega, by rw [← hts, ← HT.out]; simp⟩)
    clear hts
    go_wp2_with fail
    go_ret2
    exact ⟨_, _, rfl, HR.out, HB2.out⟩
   ·have hb : (t.toList == s.toList) = false := str_ne hts
    have HR := Lib.hid (show NumIs s.data.toList (d : Int) false from Or.inr ⟨rfl, fun m hm e => hts (by
     have h1 := congrArg dgV e
     rw [dec_val, HDV.out] at h1
     rw [← HT.out, ← h1]
     exact bytes_ext (by simpa using e))⟩)
    clear hts
    go_wp2_with fail
    go_ret2
    exact ⟨_, _, rfl, HR.out, HB2.out⟩
end Go.Proofs.YthppifcggmdmoaaGreatDoor

namespace Go.Proofs.YthppifcggmdmoaaGreatDoor
open Go.RowKit
set_option linter.unusedVariables false

set_option maxHeartbeats 2000000 in
theorem r_DayCheck (k wd n : Int) (w : World) :
  Calls Tryz.prog 115 #[.agg #[.int .i64 k, .int .i64 wd, .int .i64 n]] w fun e w' => e = .returned (.int .i64 (dcE k wd n)) ∧ Below w.heap.size w w' := by
 by_cases h : dcOk k wd n = true
 ·have hx := dcOk_iff.1 h
  have h1 : decide (k < 1 ∨ 4 < k) = false := by simp; omega
  have h2 : decide (wd < 0 ∨ 6 < wd) = false := by simp; omega
  have h3 : (k == 1 && wd != 0) = false := by simp; omega
  have h4 : (k == 2 && n != 0) = false := by simp; omega
  by_cases h5 : k = 2
  ·have hn : n = 0 := by omega
   subst h5; subst hn
   have H := Lib.hid h
   clear h hx h4
   go_enter Tryz.func115, Tryz.ntmps115
   go_wp2_with (first | (go_at_call 24; refine (r_outside _ _ _ _).mono ?_; rintro e w' ⟨rfl, rfl⟩))
   go_ret
   exact ⟨ret_int (dcE_ok H.out).symm, (by repeat (first | exact Below.refl _ _ | assumption | apply Below.drew | apply below_drewN | (refine Below.alloc ?_ (by simp; try omega) _) | (refine Below.setCell ?_ (by simp; try omega) _)))⟩
  ·have h6 : decide (n < 1 ∨ 31 < n) = false := by simp; omega
   have H := Lib.hid h
   by_cases h7 : k = 1
   ·have hw : wd = 0 := by omega
    subst h7; subst hw
    clear h hx h4
    go_enter Tryz.func115, Tryz.ntmps115
    go_wp2_with (first | (go_at_call 24; refine (r_outside _ _ _ _).mono ?_; rintro e w' ⟨rfl, rfl⟩))
    go_ret
    exact ⟨ret_int (dcE_ok H.out).symm, (by repeat (first | exact Below.refl _ _ | assumption | apply Below.drew | apply below_drewN | (refine Below.alloc ?_ (by simp; try omega) _) | (refine Below.setCell ?_ (by simp; try omega) _)))⟩
   ·clear h hx h4 h3
    go_enter Tryz.func115, Tryz.ntmps115
    go_wp2_with (first | (go_at_call 24; refine (r_outside _ _ _ _).mono ?_; rintro e w' ⟨rfl, rfl⟩))
    go_ret
    exact ⟨ret_int (dcE_ok H.out).symm, (by repeat (first | exact Below.refl _ _ | assumption | apply Below.drew | apply below_drewN | (refine Below.alloc ?_ (by simp; try omega) _) | (refine Below.setCell ?_ (by simp; try omega) _)))⟩
 ·have h := eq_false_of_ne_true h
  have hx := dcOk_no.1 h
  have H := Lib.hid h
  clear h
  by_cases h1 : k < 1 ∨ 4 < k
  ·have e1 : decide (k < 1 ∨ 4 < k) = true := by simpa using h1
   clear h1 hx
   go_enter Tryz.func115, Tryz.ntmps115
   go_wp2_with (first | (go_at_call 24; refine (r_outside _ _ _ _).mono ?_; rintro e w' ⟨rfl, rfl⟩))
   go_ret
   exact ⟨ret_int (dcE_no H.out).symm, (by repeat (first | exact Below.refl _ _ | assumption | apply Below.drew | apply below_drewN | (refine Below.alloc ?_ (by simp; try omega) _) | (refine Below.setCell ?_ (by simp; try omega) _)))⟩
  ·have e1 : decide (k < 1 ∨ 4 < k) = false := by simpa using h1
   by_cases h2 : wd < 0 ∨ 6 < wd
   ·have e2 : decide (wd < 0 ∨ 6 < wd) = true := by simpa using h2
    clear h1 hx h2
    go_enter Tryz.func115, Tryz.ntmps115
    go_wp2_with (first | (go_at_call 24; refine (r_outside _ _ _ _).mono ?_; rintro e w' ⟨rfl, rfl⟩))
    go_ret
    exact ⟨ret_int (dcE_no H.out).symm, (by repeat (first | exact Below.refl _ _ | assumption | apply Below.drew | apply below_drewN | (refine Below.alloc ?_ (by simp; try omega) _) | (refine Below.setCell ?_ (by simp; try omega) _)))⟩
   ·have e2 : decide (wd < 0 ∨ 6 < wd) = false := by simpa using h2
    by_cases h5 : k = 2
    ·subst h5
     have hn : n ≠ 0 := by omega
     clear h1 hx h2
     go_enter Tryz.func115, Tryz.ntmps115
     go_wp2_with (first | (go_at_call 24; refine (r_outside _ _ _ _).mono ?_; rintro e w' ⟨rfl, rfl⟩))
     go_ret
     exact ⟨ret_int (dcE_no H.out).symm, (by repeat (first | exact Below.refl _ _ | assumption | apply Below.drew | apply below_drewN | (refine Below.alloc ?_ (by simp; try omega) _) | (refine Below.setCell ?_ (by simp; try omega) _)))⟩
    ·by_cases h6 : n < 1 ∨ 31 < n
     ·have e6 : decide (n < 1 ∨ 31 < n) = true := by simpa using h6
      by_cases h7 : k = 1
      ·subst h7
       by_cases h8 : wd = 0
       ·subst h8
        clear h1 hx h2 h6
        go_enter Tryz.func115, Tryz.ntmps115
        go_wp2_with (first | (go_at_call 24; refine (r_outside _ _ _ _).mono ?_; rintro e w' ⟨rfl, rfl⟩))
        go_ret
        exact ⟨ret_int (dcE_no H.out).symm, (by repeat (first | exact Below.refl _ _ | assumption | apply Below.drew | apply below_drewN | (refine Below.alloc ?_ (by simp; try omega) _) | (refine Below.setCell ?_ (by simp; try omega) _)))⟩
       ·clear h1 hx h2 h6
        go_enter Tryz.func115, Tryz.ntmps115
        go_wp2_with (first | (go_at_call 24; refine (r_outside _ _ _ _).mono ?_; rintro e w' ⟨rfl, rfl⟩))
        go_ret
        exact ⟨ret_int (dcE_no H.out).symm, (by repeat (first | exact Below.refl _ _ | assumption | apply Below.drew | apply below_drewN | (refine Below.alloc ?_ (by simp; try omega) _) | (refine Below.setCell ?_ (by simp; try omega) _)))⟩
      ·clear h1 hx h2 h6
       go_enter Tryz.func115, Tryz.ntmps115
       go_wp2_with (first | (go_at_call 24; refine (r_outside _ _ _ _).mono ?_; rintro e w' ⟨rfl, rfl⟩))
       go_ret
       exact ⟨ret_int (dcE_no H.out).symm, (by repeat (first | exact Below.refl _ _ | assumption | apply Below.drew | apply below_drewN | (refine Below.alloc ?_ (by simp; try omega) _) | (refine Below.setCell ?_ (by simp; try omega) _)))⟩
     ·have h7 : k = 1 := by omega
      subst h7
      have h8 : wd ≠ 0 := by omega
      clear h1 hx h2 h6
      go_enter Tryz.func115, Tryz.ntmps115
      go_wp2_with (first | (go_at_call 24; refine (r_outside _ _ _ _).mono ?_; rintro e w' ⟨rfl, rfl⟩))
      go_ret
      exact ⟨ret_int (dcE_no H.out).symm, (by repeat (first | exact Below.refl _ _ | assumption | apply Below.drew | apply below_drewN | (refine Below.alloc ?_ (by simp; try omega) _) | (refine Below.setCell ?_ (by simp; try omega) _)))⟩

def isTimeB (t : Int) : Bool := decide (-11676096000 ≤ t ∧ t < 13569465600)
set_option maxHeartbeats 1000000 in
theorem r_IsTime (t : Int) (w : World) :
  Calls Tryz.prog 119 #[.int .i64 t] w fun e w' => e = .returned (.bool (isTimeB t)) ∧ w = w' := by
 have y1 : yd 1600 = -135140 := by decide
 have y2 : yd 2400 = 157054 := by decide
 by_cases h1 : -11676096000 ≤ t
 all_goals
  go_enter Tryz.func119, Tryz.ntmps119
  go_wp2_with (first | (go_at_call 74; refine (r_yearDay _ (by omega) (by omega) _).mono ?_; rintro e w' ⟨rfl, rfl⟩))
  go_ret
  exact ⟨ret_bool (by simp [isTimeB]; omega), rfl⟩
end Go.Proofs.YthppifcggmdmoaaGreatDoor

namespace Go.Proofs.YthppifcggmdmoaaGreatDoor
open Go.RowKit
set_option linter.unusedVariables false
theorem conv_one (w : World) (t : TypeId) (n : Int) (h0 : 0 ≤ n) (h1 : n < 256) (c : Nat) :
  (Go.convert 125 9 (.slice (some ⟨w.heap.size, 0, none⟩) 1 c)).run Tryz.prog (w.alloc (.cells #[.int .u8 n] t)) = .ok (.string ⟨#[UInt8.ofNat n.toNat]⟩) (w.alloc (.cells #[.int .u8 n] t)) := by
 have := run_convert_bytes_back (P := Tryz.prog) (w.alloc (.cells #[.int .u8 n] t)) 125 9 5 ⟨w.heap.size, 0, none⟩ c [UInt8.ofNat n.toNat] Tryz.underlying125 Tryz.underlying5 Tryz.underlying9
  (fun j hj => by
   obtain rfl : j = 0 := by simpa using hj
   show (w.alloc (.cells #[.int .u8 n] t)).cell? ⟨w.heap.size, 0, none⟩ = _
   simp; omega)
 simpa using this
set_option maxHeartbeats 1000000 in
theorem r_chrD (n : Int) (h0 : 0 ≤ n) (h1 : n < 256) (w : World) :
  Calls Tryz.prog 156 #[.int .i64 n] w fun e w' => e = .returned (.string ⟨#[UInt8.ofNat n.toNat]⟩) ∧ Below w.heap.size w w' := by
 have kc := fun (t : TypeId) (c : Nat) => conv_one w t n h0 h1 c
 go_enter Tryz.func156, Tryz.ntmps156
 go_wp2_with fail
 go_ret
 exact ⟨rfl, (by repeat (first | exact Below.refl _ _ | assumption | apply Below.drew | apply below_drewN | (refine Below.alloc ?_ (by simp; try omega) _) | (refine Below.setCell ?_ (by simp; try omega) _)))⟩
set_option maxHeartbeats 1000000 in
theorem r_Digits1 (n : Nat) (h : n < 10) (w : World) :
  Calls Tryz.prog 111 #[.int .i64 n] w fun e w' => e = .returned (.string ⟨(Lib.decDigits n).toArray⟩) ∧ Below w.heap.size w w' := by
 have HV := Lib.hid (show (⟨#[UInt8.ofNat (48 + (n : Int)).toNat]⟩ : ByteArray) = ⟨(Lib.decDigits n).toArray⟩ by rw [dig_small h]; congr 4)
 go_enter Tryz.func111, Tryz.ntmps111
 go_wp2_with (first | (go_at_call 156; refine (r_chrD _ (by omega) (by omega) _).mono ?_; rintro e w1 ⟨rfl, hb⟩))
 go_ret
 exact ⟨congrArg (fun v => Ending.returned (.string v)) HV.out, hb⟩
set_option maxHeartbeats 1000000 in
theorem r_DigitsD (n : Nat) (h : n < 100) (w : World) :
  Calls Tryz.prog 111 #[.int .i64 n] w fun e w' => e = .returned (.string ⟨(Lib.decDigits n).toArray⟩) ∧ Below w.heap.size w w' := by
 by_cases h1 : n < 10
 ·exact r_Digits1 n h1 w
 ·have HV := Lib.hid (digits_two h1)
  obtain ⟨q, hq⟩ : ∃ q, n / 10 = q := ⟨_, rfl⟩
  obtain ⟨r, hr⟩ : ∃ r, n % 10 = r := ⟨_, rfl⟩
  rw [hq, hr] at HV
  have e1 : ((n : Int)).tdiv 10 = (q : Int) := by rw [Int.tdiv_eq_ediv_of_nonneg (by omega)]; omega
  have e2 : ((n : Int)).tmod 10 = (r : Int) := by rw [Int.tmod_eq_emod_of_nonneg (by omega)]; omega
  have e3 : ((n : Int)) / 10 = (q : Int) := by omega
  have e4 : ((n : Int)) % 10 = (r : Int) := by omega
  have hq9 : q < 10 := by omega
  have hr9 : r < 10 := by omega
  have hs : (⟨(Lib.decDigits q).toArray⟩ : ByteArray).size ≤ 2 := dig_size (by omega)
  have hl : (Lib.decDigits q).length ≤ 2 := hs
  have HC := Lib.hid (show (48 + (r : Int)).toNat = 48 + r by omega)
  clear hq hr
  go_enter Tryz.func111, Tryz.ntmps111
  go_wp2_with fail
  refine (r_Digits1 q hq9 _).mono ?_
  rintro e w1 ⟨rfl, hb⟩
  go_wp2_with fail
  refine (r_chrD _ (by omega) (by omega) _).mono ?_
  rintro e w2 ⟨rfl, hb2⟩
  go_wp2_with fail
  go_ret
  exact ⟨congrArg (fun v => Ending.returned (.string v)) ((congrArg (fun z => (⟨(Lib.decDigits q).toArray⟩ : ByteArray) ++ ⟨#[UInt8.ofNat z]⟩) HC.out).trans HV.out), hb.trans (hb2.mono hb.size)⟩
set_option maxHeartbeats 1000000 in
theorem r_weekWord (j : Nat) (hj : j ≤ 6) (w : World) :
  Calls Tryz.prog 157 #[.int .i64 j] w fun e w' => e = .returned (.string (wordV j)) ∧ w = w' := by
 have hw : wordV j = WK.extract (3 * j) (3 * j + 3) := by rw [wordV]; congr 1
 rw [WK] at hw
 rw [hw]
 clear hw
 go_enter Tryz.func157, Tryz.ntmps157
 go_wp2_with fail
 go_ret
 exact ⟨rfl, rfl⟩
end Go.Proofs.YthppifcggmdmoaaGreatDoor

