/- Part 7 of the proof of TopWall: no condition; what its declarations say stands at each. -/
import Derived.Test.YthppifcggmdmoaaGreatDoorW03
import Derived.Laws.IdiomStrings
import Derived.Lib.AppendIntMem
import Derived.Test.YthppifcggmdmoaaGreatDoorW01
namespace Go.Proofs.YthppifcggmdmoaaGreatDoor
open Go.RowKit
set_option linter.unusedVariables false
theorem conv_two (w : World) (t : TypeId) (a b : Int) (ha : 0 ≤ a ∧ a < 256) (hb : 0 ≤ b ∧ b < 256) (c : Nat) :
  (Go.convert 125 9 (.slice (some ⟨w.heap.size, 0, none⟩) 2 c)).run Tryz.prog (w.alloc (.cells #[.int .u8 a, .int .u8 b] t)) = .ok (.string ⟨#[UInt8.ofNat a.toNat, UInt8.ofNat b.toNat]⟩) (w.alloc (.cells #[.int .u8 a, .int .u8 b] t)) := by
 have := run_convert_bytes_back (P := Tryz.prog) (w.alloc (.cells #[.int .u8 a, .int .u8 b] t)) 125 9 5 ⟨w.heap.size, 0, none⟩ c [UInt8.ofNat a.toNat, UInt8.ofNat b.toNat] Tryz.underlying125 Tryz.underlying5 Tryz.underlying9
  (fun j hj => by
   have hj2 : j = 0 ∨ j = 1 := by simp at hj; omega
   rcases hj2 with rfl | rfl
   ·show (w.alloc (.cells #[.int .u8 a, .int .u8 b] t)).cell? ⟨w.heap.size, 0, none⟩ = _
    simp; omega
   ·show (w.alloc (.cells #[.int .u8 a, .int .u8 b] t)).cell? ⟨w.heap.size, 0 + 1, none⟩ = _
    simp; omega)
 simpa using this
set_option maxHeartbeats 1000000 in
theorem k_two (m : Nat) (h : m < 100) (w : World) :
  Calls Tryz.prog 80 #[.int .i64 m] w fun e w' => e = .returned (.string (twoB m)) ∧ Below w.heap.size w w' := by
 obtain ⟨q, hq⟩ : ∃ q, m / 10 = q := ⟨_, rfl⟩
 obtain ⟨r, hr⟩ : ∃ r, m % 10 = r := ⟨_, rfl⟩
 have HV : Hid (twoB m = ⟨#[UInt8.ofNat (48 + (q : Int)).toNat, UInt8.ofNat (48 + (r : Int)).toNat]⟩) := Lib.hid (by
  rw [twoB, hq, hr]; congr 4 <;> omega)
 have e1 : ((m : Int)).tdiv 10 = (q : Int) := by rw [Int.tdiv_eq_ediv_of_nonneg (by omega)]; omega
 have e2 : ((m : Int)).tmod 10 = (r : Int) := by rw [Int.tmod_eq_emod_of_nonneg (by omega)]; omega
 have e3 : ((m : Int)) / 10 = (q : Int) := by omega
 have e4 : ((m : Int)) % 10 = (r : Int) := by omega
 have hq9 : q < 10 := by omega
 have hr9 : r < 10 := by omega
 have kc := fun (t : TypeId) (c : Nat) => conv_two w t (48 + q) (48 + r) (by omega) (by omega) c
 rw [HV.out]
 clear hq hr HV
 go_enter Tryz.func80, Tryz.ntmps80
 go_wp2_with fail
 go_ret
 exact ⟨rfl, (by repeat (first | exact Below.refl _ _ | assumption | apply Below.drew | apply below_drewN | (refine Below.alloc ?_ (by simp; try omega) _) | (refine Below.setCell ?_ (by simp; try omega) _)))⟩
def ItoaIn (w : World) (h : Nat) : Prop := ∀ W, Below w.heap.size w W → Calls Tryz.prog 79 #[.int .i64 h] W fun e w' => e = .returned (.string ⟨(Lib.decDigits h).toArray⟩) ∧ Below W.heap.size W w'
set_option maxRecDepth 100000 in
set_option maxHeartbeats 2000000 in
theorem k_Span_no (n : Int) (h : spOk n = false) (w : World) :
  Calls Tryz.prog 141 #[.int .i64 n] w fun e w' => e = .returned (.tuple #[.string ⟨#[]⟩, .int .i64 1]) ∧ Below w.heap.size w w' := by
 have h1 : n < -604800 ∨ (-604800 ≤ n ∧ 604800 < n) := by
  have : ¬ (-604800 ≤ n ∧ n ≤ 604800) := by rw [← spOk_iff, h]; decide
  omega
 clear h
 rcases h1 with h1 | ⟨h1, h2⟩
 all_goals
  go_enter Tryz.func141, Tryz.ntmps141
  go_wp2_with fail
  go_ret2
  exact ⟨rfl, (by repeat (first | exact Below.refl _ _ | assumption | apply Below.drew | apply below_drewN | (refine Below.alloc ?_ (by simp; try omega) _) | (refine Below.setCell ?_ (by simp; try omega) _)))⟩
set_option maxRecDepth 100000 in
set_option maxHeartbeats 2000000 in
theorem k_Span_p0 (m : Nat) (hm : m ≤ 604800) (hc : m % 60 = 0) (w : World) (HI : ItoaIn w (m / 3600)) :
  Calls Tryz.prog 141 #[.int .i64 m] w fun e w' => e = .returned (.tuple #[.string (spanT m), .int .i64 0]) ∧ Below w.heap.size w w' := by
 have hB : Below w.heap.size w w := Below.refl _ _
 rw [span_0 hc]
 unfold ItoaIn at HI
 obtain ⟨a, ha⟩ : ∃ a, m / 3600 = a := ⟨_, rfl⟩
 obtain ⟨b, hb⟩ : ∃ b, m / 60 % 60 = b := ⟨_, rfl⟩
 obtain ⟨c, hcc⟩ : ∃ c, m % 60 = c := ⟨_, rfl⟩
 obtain ⟨d, hd⟩ : ∃ d, m / 60 = d := ⟨_, rfl⟩
 have e1 : ((m : Int)).tdiv 3600 = (a : Int) := by rw [Int.tdiv_eq_ediv_of_nonneg (by omega)]; omega
 have e2 : ((m : Int)).tdiv 60 = (d : Int) := by rw [Int.tdiv_eq_ediv_of_nonneg (by omega)]; omega
 have e3 : ((d : Int)).tmod 60 = (b : Int) := by rw [Int.tmod_eq_emod_of_nonneg (by omega)]; omega
 have e4 : ((m : Int)).tmod 60 = (c : Int) := by rw [Int.tmod_eq_emod_of_nonneg (by omega)]; omega
 have e5 : ((m : Int)) / 3600 = (a : Int) := by omega
 have e6 : ((m : Int)) / 60 = (d : Int) := by omega
 have e7 : ((d : Int)) % 60 = (b : Int) := by omega
 have e8 : ((m : Int)) % 60 = (c : Int) := by omega
 have hl : (Lib.decDigits a).length ≤ 3 := dec_len3 (by omega)
 have hb60 : b < 60 := by omega
 have hc60 : c < 60 := by omega
 have hc0 : c = 0 := by omega
 rw [ha] at HI ⊢
 rw [hb]
 try rw [hcc]
 have HI' := Lib.hid HI
 have HB := Lib.hid hb60
 have HC := Lib.hid hc60
 have hs1 : (twoB b).size = 2 := rfl
 have hs2 : (twoB c).size = 2 := rfl
 have hds : digB a = ⟨(Lib.decDigits a).toArray⟩ := rfl
 rw [hds]
 clear ha hb hcc hd HI hds hc hb60 hc60
 go_enter Tryz.func141, Tryz.ntmps141
 go_wp2_with fail
 refine (HI'.out _ hB).mono ?_
 rintro e w1 ⟨rfl, hb⟩
 replace hB := hB.trans (hb.mono hB.size)
 clear hb
 go_wp2_with fail
 refine (k_two b (by have := HB.out; omega) _).mono ?_
 rintro e w2 ⟨rfl, hb⟩
 replace hB := hB.trans (hb.mono hB.size)
 clear hb
 go_wp2_with fail
 go_ret2
 exact ⟨rfl, hB⟩
set_option maxRecDepth 100000 in
set_option maxHeartbeats 2000000 in
theorem k_Span_p1 (m : Nat) (hm : m ≤ 604800) (hc : ¬ m % 60 = 0) (w : World) (HI : ItoaIn w (m / 3600)) :
  Calls Tryz.prog 141 #[.int .i64 m] w fun e w' => e = .returned (.tuple #[.string (spanT m), .int .i64 0]) ∧ Below w.heap.size w w' := by
 have hB : Below w.heap.size w w := Below.refl _ _
 rw [span_1 hc]
 unfold ItoaIn at HI
 obtain ⟨a, ha⟩ : ∃ a, m / 3600 = a := ⟨_, rfl⟩
 obtain ⟨b, hb⟩ : ∃ b, m / 60 % 60 = b := ⟨_, rfl⟩
 obtain ⟨c, hcc⟩ : ∃ c, m % 60 = c := ⟨_, rfl⟩
 obtain ⟨d, hd⟩ : ∃ d, m / 60 = d := ⟨_, rfl⟩
 have e1 : ((m : Int)).tdiv 3600 = (a : Int) := by rw [Int.tdiv_eq_ediv_of_nonneg (by omega)]; omega
 have e2 : ((m : Int)).tdiv 60 = (d : Int) := by rw [Int.tdiv_eq_ediv_of_nonneg (by omega)]; omega
 have e3 : ((d : Int)).tmod 60 = (b : Int) := by rw [Int.tmod_eq_emod_of_nonneg (by omega)]; omega
 have e4 : ((m : Int)).tmod 60 = (c : Int) := by rw [Int.tmod_eq_emod_of_nonneg (by omega)]; omega
 have e5 : ((m : Int)) / 3600 = (a : Int) := by omega
 have e6 : ((m : Int)) / 60 = (d : Int) := by omega
 have e7 : ((d : Int)) % 60 = (b : Int) := by omega
 have e8 : ((m : Int)) % 60 = (c : Int) := by omega
 have hl : (Lib.decDigits a).length ≤ 3 := dec_len3 (by omega)
 have hb60 : b < 60 := by omega
 have hc60 : c < 60 := by omega
 have hc0 : 0 < c := by omega
 rw [ha] at HI ⊢
 rw [hb]
 try rw [hcc]
 have HI' := Lib.hid HI
 have HB := Lib.hid hb60
 have HC := Lib.hid hc60
 have hs1 : (twoB b).size = 2 := rfl
 have hs2 : (twoB c).size = 2 := rfl
 have hds : digB a = ⟨(Lib.decDigits a).toArray⟩ := rfl
 rw [hds]
 clear ha hb hcc hd HI hds hc hb60 hc60
 go_enter Tryz.func141, Tryz.ntmps141
 go_wp2_with fail
 refine (HI'.out _ hB).mono ?_
 rintro e w1 ⟨rfl, hb⟩
 replace hB := hB.trans (hb.mono hB.size)
 clear hb
 go_wp2_with fail
 refine (k_two b (by have := HB.out; omega) _).mono ?_
 rintro e w2 ⟨rfl, hb⟩
 replace hB := hB.trans (hb.mono hB.size)
 clear hb
 go_wp2_with fail
 refine (k_two c (by have := HC.out; omega) _).mono ?_
 rintro e w3 ⟨rfl, hb⟩
 replace hB := hB.trans (hb.mono hB.size)
 clear hb
 go_wp2_with fail
 go_ret2
 exact ⟨rfl, hB⟩
set_option maxRecDepth 100000 in
set_option maxHeartbeats 2000000 in
theorem k_Span_n0 (m : Nat) (hm : m ≤ 604800) (h0 : 0 < m) (hc : m % 60 = 0) (w : World) (HI : ItoaIn w (m / 3600)) :
  Calls Tryz.prog 141 #[.int .i64 (-(m : Int))] w fun e w' => e = .returned (.tuple #[.string (⟨#[45]⟩ ++ spanT m), .int .i64 0]) ∧ Below w.heap.size w w' := by
 have hB : Below w.heap.size w w := Below.refl _ _
 rw [span_0 hc]
 unfold ItoaIn at HI
 obtain ⟨a, ha⟩ : ∃ a, m / 3600 = a := ⟨_, rfl⟩
 obtain ⟨b, hb⟩ : ∃ b, m / 60 % 60 = b := ⟨_, rfl⟩
 obtain ⟨c, hcc⟩ : ∃ c, m % 60 = c := ⟨_, rfl⟩
 obtain ⟨d, hd⟩ : ∃ d, m / 60 = d := ⟨_, rfl⟩
 have e1 : ((m : Int)).tdiv 3600 = (a : Int) := by rw [Int.tdiv_eq_ediv_of_nonneg (by omega)]; omega
 have e2 : ((m : Int)).tdiv 60 = (d : Int) := by rw [Int.tdiv_eq_ediv_of_nonneg (by omega)]; omega
 have e3 : ((d : Int)).tmod 60 = (b : Int) := by rw [Int.tmod_eq_emod_of_nonneg (by omega)]; omega
 have e4 : ((m : Int)).tmod 60 = (c : Int) := by rw [Int.tmod_eq_emod_of_nonneg (by omega)]; omega
 have e5 : ((m : Int)) / 3600 = (a : Int) := by omega
 have e6 : ((m : Int)) / 60 = (d : Int) := by omega
 have e7 : ((d : Int)) % 60 = (b : Int) := by omega
 have e8 : ((m : Int)) % 60 = (c : Int) := by omega
 have hl : (Lib.decDigits a).length ≤ 3 := dec_len3 (by omega)
 have hb60 : b < 60 := by omega
 have hc60 : c < 60 := by omega
 have hc0 : c = 0 := by omega
 rw [ha] at HI ⊢
 rw [hb]
 try rw [hcc]
 have HI' := Lib.hid HI
 have HB := Lib.hid hb60
 have HC := Lib.hid hc60
 have hs1 : (twoB b).size = 2 := rfl
 have hs2 : (twoB c).size = 2 := rfl
 have hds : digB a = ⟨(Lib.decDigits a).toArray⟩ := rfl
 rw [hds]
 clear ha hb hcc hd HI hds hc hb60 hc60
 go_enter Tryz.func141, Tryz.ntmps141
 go_wp2_with fail
 refine (HI'.out _ hB).mono ?_
 rintro e w1 ⟨rfl, hb⟩
 replace hB := hB.trans (hb.mono hB.size)
 clear hb
 go_wp2_with fail
 refine (k_two b (by have := HB.out; omega) _).mono ?_
 rintro e w2 ⟨rfl, hb⟩
 replace hB := hB.trans (hb.mono hB.size)
 clear hb
 go_wp2_with fail
 go_ret2
 exact ⟨rfl, hB⟩
set_option maxRecDepth 100000 in
set_option maxHeartbeats 2000000 in
theorem k_Span_n1 (m : Nat) (hm : m ≤ 604800) (h0 : 0 < m) (hc : ¬ m % 60 = 0) (w : World) (HI : ItoaIn w (m / 3600)) :
  Calls Tryz.prog 141 #[.int .i64 (-(m : Int))] w fun e w' => e = .returned (.tuple #[.string (⟨#[45]⟩ ++ spanT m), .int .i64 0]) ∧ Below w.heap.size w w' := by
 have hB : Below w.heap.size w w := Below.refl _ _
 rw [span_1 hc]
 unfold ItoaIn at HI
 obtain ⟨a, ha⟩ : ∃ a, m / 3600 = a := ⟨_, rfl⟩
 obtain ⟨b, hb⟩ : ∃ b, m / 60 % 60 = b := ⟨_, rfl⟩
 obtain ⟨c, hcc⟩ : ∃ c, m % 60 = c := ⟨_, rfl⟩
 obtain ⟨d, hd⟩ : ∃ d, m / 60 = d := ⟨_, rfl⟩
 have e1 : ((m : Int)).tdiv 3600 = (a : Int) := by rw [Int.tdiv_eq_ediv_of_nonneg (by omega)]; omega
 have e2 : ((m : Int)).tdiv 60 = (d : Int) := by rw [Int.tdiv_eq_ediv_of_nonneg (by omega)]; omega
 have e3 : ((d : Int)).tmod 60 = (b : Int) := by rw [Int.tmod_eq_emod_of_nonneg (by omega)]; omega
 have e4 : ((m : Int)).tmod 60 = (c : Int) := by rw [Int.tmod_eq_emod_of_nonneg (by omega)]; omega
 have e5 : ((m : Int)) / 3600 = (a : Int) := by omega
 have e6 : ((m : Int)) / 60 = (d : Int) := by omega
 have e7 : ((d : Int)) % 60 = (b : Int) := by omega
 have e8 : ((m : Int)) % 60 = (c : Int) := by omega
 have hl : (Lib.decDigits a).length ≤ 3 := dec_len3 (by omega)
 have hb60 : b < 60 := by omega
 have hc60 : c < 60 := by omega
 have hc0 : 0 < c := by omega
 rw [ha] at HI ⊢
 rw [hb]
 try rw [hcc]
 have HI' := Lib.hid HI
 have HB := Lib.hid hb60
 have HC := Lib.hid hc60
 have hs1 : (twoB b).size = 2 := rfl
 have hs2 : (twoB c).size = 2 := rfl
 have hds : digB a = ⟨(Lib.decDigits a).toArray⟩ := rfl
 rw [hds]
 clear ha hb hcc hd HI hds hc hb60 hc60
 go_enter Tryz.func141, Tryz.ntmps141
 go_wp2_with fail
 refine (HI'.out _ hB).mono ?_
 rintro e w1 ⟨rfl, hb⟩
 replace hB := hB.trans (hb.mono hB.size)
 clear hb
 go_wp2_with fail
 refine (k_two b (by have := HB.out; omega) _).mono ?_
 rintro e w2 ⟨rfl, hb⟩
 replace hB := hB.trans (hb.mono hB.size)
 clear hb
 go_wp2_with fail
 refine (k_two c (by have := HC.out; omega) _).mono ?_
 rintro e w3 ⟨rfl, hb⟩
 replace hB := hB.trans (hb.mono hB.size)
 clear hb
 go_wp2_with fail
 go_ret2
 exact ⟨rfl, hB⟩
theorem k_Span (n : Int) (w : World) (HI : ItoaIn w (n.natAbs / 3600)) :
  Calls Tryz.prog 141 #[.int .i64 n] w fun e w' => e = .returned (.tuple #[.string (spV n), .int .i64 (spE n)]) ∧ Below w.heap.size w w' := by
 cases h : spOk n with
 | false => rw [(spV_no h).1, (spV_no h).2]; exact k_Span_no n h w
 | true =>
  have hr := spOk_iff.1 h
  by_cases hn : 0 ≤ n
  ·obtain ⟨m, rfl⟩ := Int.eq_ofNat_of_zero_le hn
   rw [(spV_pos (m := m) (by omega)).1, (spV_pos (m := m) (by omega)).2]
   by_cases hc : m % 60 = 0
   ·exact k_Span_p0 m (by omega) hc w HI
   ·exact k_Span_p1 m (by omega) hc w HI
  ·obtain ⟨m, hm⟩ := Int.eq_ofNat_of_zero_le (show 0 ≤ -n by omega)
   obtain rfl : n = -(m : Int) := by omega
   rw [Int.natAbs_neg] at HI
   rw [(spV_neg (m := m) (by omega) (by omega)).1, (spV_neg (m := m) (by omega) (by omega)).2]
   by_cases hc : m % 60 = 0
   ·exact k_Span_n0 m (by omega) (by omega) hc w HI
   ·exact k_Span_n1 m (by omega) (by omega) hc w HI
theorem itoa_nat (n : Nat) : Lib.itoa (n : Int) = Lib.decDigits n := by
 rw [Lib.itoa, if_neg (by omega)]; rfl
theorem itoa_tab (w : World) (h : Nat) (hh : h < 1000000) (ht : Lib.TabIs Tryz.prog w "internal/strconv.uint64pow10" .u64 Lib.pow10Tab) : ItoaIn w h := by
 intro W hb
 refine (Tryz.strconv_Itoa (h : Int) (by omega) (by omega) W (Lib.tabBelow_of_tabIs ht W hb)).mono ?_
 rintro e w' ⟨rfl, k, os, rfl⟩
 rw [itoa_nat]
 exact ⟨rfl, Lib.below_grow _ _ (Nat.le_refl _) _ _⟩
theorem ItoaIn.on {w w' : World} {h : Nat} (H : ItoaIn w h) (hb : Below w.heap.size w w') : ItoaIn w' h := fun W hW => H W (hb.trans (hW.mono hb.size))
end Go.Proofs.YthppifcggmdmoaaGreatDoor

