/- Part 27 of the proof of BookParses: no condition; what its declarations say stands at each. -/
import Derived.Test.YthppifcggmdmoaaGreatDoorJ03
import Derived.Test.YthppifcggmdmoaaGreatDoorJ16
import Derived.Laws.IdiomStrings
namespace Go.Proofs.YthppifcggmdmoaaGreatDoor
open Go.RowKit
set_option linter.unusedVariables false
theorem conv_chr (w : World) (t : TypeId) (n : Int) (h0 : 0 ≤ n) (h1 : n < 256) (c : Nat) :
  (Go.convert 125 9 (.slice (some ⟨w.heap.size, 0, none⟩) 1 c)).run Tryz.prog (w.alloc (.cells #[.int .u8 n] t)) = .ok (.string ⟨#[UInt8.ofNat n.toNat]⟩) (w.alloc (.cells #[.int .u8 n] t)) := by
 have := run_convert_bytes_back (P := Tryz.prog) (w.alloc (.cells #[.int .u8 n] t)) 125 9 5 ⟨w.heap.size, 0, none⟩ c [UInt8.ofNat n.toNat] Tryz.underlying125 Tryz.underlying5 Tryz.underlying9
  (fun j hj => by
   obtain rfl : j = 0 := by simpa using hj
   show (w.alloc (.cells #[.int .u8 n] t)).cell? ⟨w.heap.size, 0, none⟩ = _
   simp; omega)
 simpa using this
set_option maxHeartbeats 1000000 in
theorem r_chr (n : Int) (h0 : 0 ≤ n) (h1 : n < 256) (w : World) :
  Calls Tryz.prog 156 #[.int .i64 n] w fun e w' => e = .returned (.string ⟨#[UInt8.ofNat n.toNat]⟩) ∧ Below w.heap.size w w' := by
 have kc := fun (t : TypeId) (c : Nat) => conv_chr w t n h0 h1 c
 go_enter Tryz.func156, Tryz.ntmps156
 go_wp2_with fail
 go_ret
 exact ⟨rfl, (by repeat (first | exact Below.refl _ _ | assumption | apply Below.drew | apply below_drewN | (refine Below.alloc ?_ (by simp; try omega) _) | (refine Below.setCell ?_ (by simp; try omega) _)))⟩
set_option maxHeartbeats 1000000 in
theorem r_Digits (n : Nat) (hn : n < 1000000) : ∀ w : World,
  Calls Tryz.prog 111 #[.int .i64 n] w fun e w' => e = .returned (.string ⟨(Lib.decDigits n).toArray⟩) ∧ Below w.heap.size w w' := by
 induction n using Nat.strongRecOn with
 | ind n ih =>
  intro w
  by_cases h1 : n < 10
  ·have HV := Lib.hid (show (⟨#[UInt8.ofNat (48 + (n : Int)).toNat]⟩ : ByteArray) = ⟨(Lib.decDigits n).toArray⟩ by rw [dec_small h1]; congr 4)
   clear ih
   go_enter Tryz.func111, Tryz.ntmps111
   go_wp2_with (first | (go_at_call 156; refine (r_chr _ (by omega) (by omega) _).mono ?_; rintro e w1 ⟨rfl, hb⟩))
   go_ret
   exact ⟨congrArg (fun v => Ending.returned (.string v)) HV.out, hb⟩
  ·have HV := Lib.hid (dec_join h1)
   have HI := Lib.hid (ih (n / 10) (by omega) (by omega))
   have hl := dec_len (n / 10)
   clear ih
   obtain ⟨q, hq⟩ : ∃ q, n / 10 = q := ⟨_, rfl⟩
   obtain ⟨r, hr⟩ : ∃ r, n % 10 = r := ⟨_, rfl⟩
   rw [hq] at HI hl
   rw [hq, hr] at HV
   have e1 : ((n : Int)).tdiv 10 = (q : Int) := by rw [Int.tdiv_eq_ediv_of_nonneg (by omega)]; omega
   have e2 : ((n : Int)).tmod 10 = (r : Int) := by rw [Int.tmod_eq_emod_of_nonneg (by omega)]; omega
   have e3 : ((n : Int)) / 10 = (q : Int) := by omega
   have e4 : ((n : Int)) % 10 = (r : Int) := by omega
   have hq9 : q < 1000000 := by omega
   have hr9 : r < 10 := by omega
   have HC := Lib.hid (show (48 + (r : Int)).toNat = 48 + r by omega)
   clear hq hr
   go_enter Tryz.func111, Tryz.ntmps111
   go_wp2_with fail
   refine (HI.out _).mono ?_
   rintro e w1 ⟨rfl, hb⟩
   go_wp2_with fail
   refine (r_chr _ (by omega) (by omega) _).mono ?_
   rintro e w2 ⟨rfl, hb2⟩
   go_wp2_with fail
   go_ret
   exact ⟨congrArg (fun v => Ending.returned (.string v)) ((congrArg (fun z => (⟨(Lib.decDigits q).toArray⟩ : ByteArray) ++ ⟨#[UInt8.ofNat z]⟩) HC.out).trans HV.out), hb.trans (hb2.mono hb.size)⟩
def strSz : Value → Nat
 | .string b => b.size
 | _ => 0
set_option maxRecDepth 100000 in
set_option maxHeartbeats 1000000 in
theorem r_fixed (n : Nat) (h : n < 100) (w : World) :
  Calls Tryz.prog 116 #[.int .i64 n, .int .i64 2] w fun e w' => e = .returned (.string (twoB n)) ∧ Below w.heap.size w w' := by
 have hs2 : (twoB n).size = 2 := rfl
 by_cases h1 : n < 10
 ·have hF := fixed_small h1
  have hl : (Lib.decDigits n).length = 1 := by rw [dec_small h1]; rfl
  have HD := Lib.hid (fun w => r_Digits n (by omega) w)
  clear h h1
  go_enter Tryz.func116, Tryz.ntmps116
  go_wp2_with fail
  refine (HD.out _).mono ?_
  rintro e w1 ⟨rfl, hb⟩
  go_wp2_with fail
  go_loop [5] (fun s => s = .string ⟨(Lib.decDigits n).toArray⟩ ∨ s = .string (twoB n)) (fun s => 2 - strSz s)
  case atStart => exact Or.inl rfl
  case round =>
   rcases hrel with rfl | rfl
   ·go_wp2_with fail
    exact ⟨Or.inr rfl, by simp [strSz, ByteArray.size, hl, twoB]⟩
   ·go_wp2_with fail
    go_ret
    exact ⟨rfl, hb⟩
 ·have hF := fixed_two h1 h
  have HD := Lib.hid (fun w => r_Digits n (by omega) w)
  rw [hF] at HD
  clear h h1 hF
  go_enter Tryz.func116, Tryz.ntmps116
  go_wp2_with fail
  refine (HD.out _).mono ?_
  rintro e w1 ⟨rfl, hb⟩
  go_wp2_with fail
  go_loop [5] (fun s => s = .string (twoB n)) (fun s => 0)
  case atStart => exact rfl
  case round =>
   obtain rfl := hrel
   go_wp2_with fail
   go_ret
   exact ⟨rfl, hb⟩
set_option maxRecDepth 100000 in
set_option maxHeartbeats 2000000 in
theorem r_Span_p0 (m : Nat) (hm : m ≤ 604800) (hc : m % 60 = 0) (w : World) :
  Calls Tryz.prog 62 #[.int .i64 m] w fun e w' => e = .returned (.tuple #[.string (spanT m), .int .i64 0]) ∧ Below w.heap.size w w' := by
 have hB : Below w.heap.size w w := Below.refl _ _
 rw [span_0 hc]
 obtain ⟨a, ha⟩ : ∃ a, m / 3600 = a := ⟨_, rfl⟩
 obtain ⟨b, hb⟩ : ∃ b, m / 60 % 60 = b := ⟨_, rfl⟩
 obtain ⟨c, hcc⟩ : ∃ c, m % 60 = c := ⟨_, rfl⟩
 obtain ⟨d, hd⟩ : ∃ d, m / 60 = d := ⟨_, rfl⟩
 have e1 : ((m : Int)).tdiv 3600 = (a : Int) := by rw [Int.tdiv_eq_ediv_of_nonneg (by omega)]; omega
 have e2 : ((m : Int)).tdiv 60 = (d : Int) := by rw [Int.tdiv_eq_ediv_of_nonneg (by omega)]; omega
 have e3 : ((d : Int)).tmod 60 = (b : Int) := by rw [Int.tmod_eq_emod_of_nonneg (by omega)]; omega
 have e4 : ((m : Int)).tmod 60 = (c : Int) := by rw [Int.tmod_eq_emod_of_nonneg (by omega)]; omega
 have e5 : ((m : Int)) / 3600 = (a : Int) := by omega
 have e6 : ((m : Int)) / 60 = (d : Int) := by omega
 have e7 : ((d : Int)) % 60 = (b : Int) := by omega
 have e8 : ((m : Int)) % 60 = (c : Int) := by omega
 have hl : (Lib.decDigits a).length ≤ 3 := dec_len3 (by omega)
 have ho : decide ((m : Int) < -604800 ∨ 604800 < (m : Int)) = false := by simp; omega
 have hA := Lib.hid (show a < 1000000 by omega)
 have HB := Lib.hid (show b < 100 by omega)
 have HC := Lib.hid (show c < 100 by omega)
 have hc0 : c = 0 := by omega
 rw [ha, hb]
 try rw [hcc]
 have hs1 : (twoB b).size = 2 := rfl
 have hs2 : (twoB c).size = 2 := rfl
 have hds : digB a = ⟨(Lib.decDigits a).toArray⟩ := rfl
 rw [hds]
 clear ha hb hcc hd hds hc
 go_enter Tryz.func62, Tryz.ntmps62
 go_wp2_with (first | (go_at_call 24; refine (r_outside _ _ _ _).mono ?_; rintro e w' ⟨rfl, rfl⟩))
 refine (r_Digits a hA.out _).mono ?_
 rintro e w1 ⟨rfl, hb⟩
 replace hB := hB.trans (hb.mono hB.size)
 clear hb
 go_wp2_with fail
 refine (r_fixed b HB.out _).mono ?_
 rintro e w2 ⟨rfl, hb⟩
 replace hB := hB.trans (hb.mono hB.size)
 clear hb
 go_wp2_with fail
 go_ret2
 exact ⟨rfl, hB⟩
set_option maxRecDepth 100000 in
set_option maxHeartbeats 2000000 in
theorem r_Span_p1 (m : Nat) (hm : m ≤ 604800) (hc : ¬ m % 60 = 0) (w : World) :
  Calls Tryz.prog 62 #[.int .i64 m] w fun e w' => e = .returned (.tuple #[.string (spanT m), .int .i64 0]) ∧ Below w.heap.size w w' := by
 have hB : Below w.heap.size w w := Below.refl _ _
 rw [span_1 hc]
 obtain ⟨a, ha⟩ : ∃ a, m / 3600 = a := ⟨_, rfl⟩
 obtain ⟨b, hb⟩ : ∃ b, m / 60 % 60 = b := ⟨_, rfl⟩
 obtain ⟨c, hcc⟩ : ∃ c, m % 60 = c := ⟨_, rfl⟩
 obtain ⟨d, hd⟩ : ∃ d, m / 60 = d := ⟨_, rfl⟩
 have e1 : ((m : Int)).tdiv 3600 = (a : Int) := by rw [Int.tdiv_eq_ediv_of_nonneg (by omega)]; omega
 have e2 : ((m : Int)).tdiv 60 = (d : Int) := by rw [Int.tdiv_eq_ediv_of_nonneg (by omega)]; omega
 have e3 : ((d : Int)).tmod 60 = (b : Int) := by rw [Int.tmod_eq_emod_of_nonneg (by omega)]; omega
 have e4 : ((m : Int)).tmod 60 = (c : Int) := by rw [Int.tmod_eq_emod_of_nonneg (by omega)]; omega
 have e5 : ((m : Int)) / 3600 = (a : Int) := by omega
 have e6 : ((m : Int)) / 60 = (d : Int) := by omega
 have e7 : ((d : Int)) % 60 = (b : Int) := by omega
 have e8 : ((m : Int)) % 60 = (c : Int) := by omega
 have hl : (Lib.decDigits a).length ≤ 3 := dec_len3 (by omega)
 have ho : decide ((m : Int) < -604800 ∨ 604800 < (m : Int)) = false := by simp; omega
 have hA := Lib.hid (show a < 1000000 by omega)
 have HB := Lib.hid (show b < 100 by omega)
 have HC := Lib.hid (show c < 100 by omega)
 have hc0 : 0 < c := by omega
 rw [ha, hb]
 try rw [hcc]
 have hs1 : (twoB b).size = 2 := rfl
 have hs2 : (twoB c).size = 2 := rfl
 have hds : digB a = ⟨(Lib.decDigits a).toArray⟩ := rfl
 rw [hds]
 clear ha hb hcc hd hds hc
 go_enter Tryz.func62, Tryz.ntmps62
 go_wp2_with (first | (go_at_call 24; refine (r_outside _ _ _ _).mono ?_; rintro e w' ⟨rfl, rfl⟩))
 refine (r_Digits a hA.out _).mono ?_
 rintro e w1 ⟨rfl, hb⟩
 replace hB := hB.trans (hb.mono hB.size)
 clear hb
 go_wp2_with fail
 refine (r_fixed b HB.out _).mono ?_
 rintro e w2 ⟨rfl, hb⟩
 replace hB := hB.trans (hb.mono hB.size)
 clear hb
 go_wp2_with fail
 refine (r_fixed c HC.out _).mono ?_
 rintro e w3 ⟨rfl, hb⟩
 replace hB := hB.trans (hb.mono hB.size)
 clear hb
 go_wp2_with fail
 go_ret2
 exact ⟨rfl, hB⟩
theorem r_Span_pos (m : Nat) (hm : m ≤ 604800) (w : World) :
  Calls Tryz.prog 62 #[.int .i64 m] w fun e w' => e = .returned (.tuple #[.string (spanT m), .int .i64 0]) ∧ Below w.heap.size w w' := by
 by_cases hc : m % 60 = 0
 ·exact r_Span_p0 m hm hc w
 ·exact r_Span_p1 m hm hc w
theorem span_size (m : Nat) (hm : m ≤ 604800) : (spanT m).size ≤ 20 := by
 have h := dec_len3 (show m / 3600 < 1000 by omega)
 have hs : ∀ n, (twoB n).size = 2 := fun _ => rfl
 have hd : (digB (m / 3600)).size = (Lib.decDigits (m / 3600)).length := dec_size _
 have h1 : (⟨#[58]⟩ : ByteArray).size = 1 := rfl
 rw [spanT]
 split
 ·rw [ByteArray.size_append, ByteArray.size_append, hs, hd, h1]; omega
 ·rw [ByteArray.size_append, ByteArray.size_append, ByteArray.size_append, ByteArray.size_append, hs, hs, hd, h1]; omega
set_option maxRecDepth 100000 in
set_option maxHeartbeats 1000000 in
theorem r_Span_no (n : Int) (h : spOk n = false) (w : World) :
  Calls Tryz.prog 62 #[.int .i64 n] w fun e w' => e = .returned (.tuple #[.string ⟨#[]⟩, .int .i64 1]) ∧ Below w.heap.size w w' := by
 have ho : decide (n < -604800 ∨ 604800 < n) = true := by
  have : ¬ (-604800 ≤ n ∧ n ≤ 604800) := by rw [← spOk_iff, h]; decide
  simp; omega
 clear h
 go_enter Tryz.func62, Tryz.ntmps62
 go_wp2_with (first | (go_at_call 24; refine (r_outside _ _ _ _).mono ?_; rintro e w' ⟨rfl, rfl⟩))
 go_ret2
 exact ⟨rfl, (by repeat (first | exact Below.refl _ _ | assumption | apply Below.drew | apply below_drewN | (refine Below.alloc ?_ (by simp; try omega) _) | (refine Below.setCell ?_ (by simp; try omega) _)))⟩
set_option maxRecDepth 100000 in
set_option maxHeartbeats 1000000 in
theorem r_Span_neg (m : Nat) (hm : m ≤ 604800) (h0 : 0 < m) (w : World) :
  Calls Tryz.prog 62 #[.int .i64 (-(m : Int))] w fun e w' => e = .returned (.tuple #[.string (⟨#[45]⟩ ++ spanT m), .int .i64 0]) ∧ Below w.heap.size w w' := by
 have ho : decide (-(m : Int) < -604800 ∨ 604800 < -(m : Int)) = false := by simp; omega
 have hz := span_size m hm
 have HD := Lib.hid (fun w => r_Span_pos m hm w)
 go_enter Tryz.func62, Tryz.ntmps62
 go_wp2_with (first | (go_at_call 24; refine (r_outside _ _ _ _).mono ?_; rintro e w' ⟨rfl, rfl⟩))
 refine (HD.out _).mono ?_
 rintro e w1 ⟨rfl, hb⟩
 go_wp2_with fail
 go_ret2
 exact ⟨rfl, hb⟩
theorem r_Span (n : Int) (w : World) :
  Calls Tryz.prog 62 #[.int .i64 n] w fun e w' => e = .returned (.tuple #[.string (spV n), .int .i64 (spE n)]) ∧ Below w.heap.size w w' := by
 cases h : spOk n with
 | false => rw [(spV_no h).1, (spV_no h).2]; exact r_Span_no n h w
 | true =>
  have hr := spOk_iff.1 h
  by_cases hn : 0 ≤ n
  ·obtain ⟨m, rfl⟩ := Int.eq_ofNat_of_zero_le hn
   rw [(spV_pos (m := m) (by omega)).1, (spV_pos (m := m) (by omega)).2]
   exact r_Span_pos m (by omega) w
  ·obtain ⟨m, hm⟩ := Int.eq_ofNat_of_zero_le (show 0 ≤ -n by omega)
   obtain rfl : n = -(m : Int) := by omega
   rw [(spV_neg (m := m) (by omega) (by omega)).1, (spV_neg (m := m) (by omega) (by omega)).2]
   exact r_Span_neg m (by omega) (by omega) w
end Go.Proofs.YthppifcggmdmoaaGreatDoor

