/- Walk of the reference's RiteText. -/
import Derived.Test.YtelgehpfjpbboaaDoorTeP
import Derived.Test.YtelgehpfjpbboaaDoorSpR
import Derived.Test.YtelgehpfjpbboaaDoorRiR2
import Derived.Deep.RegionHeld3
import Derived.Deep.DrawnRows
namespace Go.Proofs.YtelgehpfjpbboaaDoor
open Go.RowKit
set_option linter.unusedVariables false
theorem ret_si' {a c : ByteArray} {b d : Int} (h : a = c) (g : b = d) : Ending.returned (.tuple #[.string a, .int .i64 b]) = .returned (.tuple #[.string c, .int .i64 d]) := by rw [h, g]
set_option maxRecDepth 100000 in
set_option maxHeartbeats 2000000 in
theorem r_RiteText_none (name also : ByteArray) (off aoff m1 k1 d1 a1 m2 k2 d2 a2 : Int) (hn : name.size ≤ maxLen) (hl : also.size ≤ maxLen) (hh : ¬ posE name off also aoff m1 k1 d1 a1 m2 k2 d2 a2 = 0 ∨ posE name off also aoff m1 k1 d1 a1 m2 k2 d2 a2 = 0 ∧ also.size = 0) (w : World) :
    Calls Tryd.prog 8 #[.agg #[.string name, .int .i64 off, .string also, .int .i64 aoff, .int .i64 m1, .int .i64 k1, .int .i64 d1, .int .i64 a1, .int .i64 m2, .int .i64 k2, .int .i64 d2, .int .i64 a2]] w fun e w' => e = .returned (.tuple #[.string (teV name also off aoff m1 k1 d1 a1 m2 k2 d2 a2), .int .i64 (posE name off also aoff m1 k1 d1 a1 m2 k2 d2 a2)]) ∧ Below w.heap.size w w' := by
  rcases hh with h | ⟨h, h2⟩
  · rw [te_bad h]
    go_enter Tryd.func8, Tryd.ntmps8
    go_wp2_with (first | (go_at_call 19; refine (r_RiteCheck _ _ _ _ _ _ _ _ _ _ _ _ hn hl _).mono ?_; rintro e w1 ⟨rfl, hb⟩; first | (obtain ⟨hcs, hz, hb'⟩ := boxc hb; clear hb) | (have K := keepc hcs hz hb' hb; clear hcs hz hb' hb; obtain ⟨hcs, hz, hb'⟩ := K)))
    go_ret2
    exact ⟨rfl, hb'⟩
  · obtain ⟨n3, n8, hal, o1, o2⟩ := pos_name h
    rw [te_none h h2]
    have q1 := em_list h2
    have q2 := em_isEmpty h2
    have hs0 := sp_size (-off)
    clear h2 hal
    go_enter Tryd.func8, Tryd.ntmps8
    go_wp2_with (first | (go_at_call 19; refine (r_RiteCheck _ _ _ _ _ _ _ _ _ _ _ _ hn hl _).mono ?_; rintro e w1 ⟨rfl, hb⟩; first | (obtain ⟨hcs, hz, hb'⟩ := boxc hb; clear hb) | (have K := keepc hcs hz hb' hb; clear hcs hz hb' hb; obtain ⟨hcs, hz, hb'⟩ := K)) | (go_at_call 11; refine (r_Span _ _).mono ?_; rintro e w1 ⟨rfl, hb⟩; first | (obtain ⟨hcs, hz, hb'⟩ := boxc hb; clear hb) | (have K := keepc hcs hz hb' hb; clear hcs hz hb' hb; obtain ⟨hcs, hz, hb'⟩ := K)))
    go_ret2
    exact ⟨ret_si' rfl h.symm, hb'⟩
attribute [local go_sem ↓] Go.wp_at_zero Go.wp_at_succ
theorem RKB.step {w W W2 : World} {cs c8 c4 : Array Value} {g b : Nat} (h : (∀ i, W.cell? ⟨b, i, none⟩ = c4[i]?) ∧ b < W.heap.size ∧ RK w W cs c8 g) (h2 : Below W.heap.size W W2) :
    (∀ i, W2.cell? ⟨b, i, none⟩ = c4[i]?) ∧ b < W2.heap.size ∧ RK w W2 cs c8 g :=
  ⟨fun i => (h2.cell h.2.1).trans (h.1 i), Nat.lt_of_lt_of_le h.2.1 h2.size, h.2.2.step h2⟩
theorem RKB.drew {w W : World} {cs c8 c4 : Array Value} {g b : Nat} (h : (∀ i, W.cell? ⟨b, i, none⟩ = c4[i]?) ∧ b < W.heap.size ∧ RK w W cs c8 g) :
    (∀ i, W.drew.cell? ⟨b, i, none⟩ = c4[i]?) ∧ b < W.drew.heap.size ∧ RK w W.drew cs c8 g := RKB.step h (Below.refl _ _).drew
set_option maxRecDepth 100000 in
set_option maxHeartbeats 4000000 in
theorem r_RiteText_full (name also : ByteArray) (off aoff m1 k1 d1 a1 m2 k2 d2 a2 : Int) (hn : name.size ≤ maxLen) (hl : also.size ≤ maxLen) (h : posE name off also aoff m1 k1 d1 a1 m2 k2 d2 a2 = 0) (h2 : ¬ also.size = 0) (w : World) :
    Calls Tryd.prog 8 #[.agg #[.string name, .int .i64 off, .string also, .int .i64 aoff, .int .i64 m1, .int .i64 k1, .int .i64 d1, .int .i64 a1, .int .i64 m2, .int .i64 k2, .int .i64 d2, .int .i64 a2]] w fun e w' => e = .returned (.tuple #[.string (teV name also off aoff m1 k1 d1 a1 m2 k2 d2 a2), .int .i64 (posE name off also aoff m1 k1 d1 a1 m2 k2 d2 a2)]) ∧ Below w.heap.size w w' := by
  obtain ⟨n3, n8, hal, o1, o2⟩ := pos_name h
  rw [te_full h h2]
  obtain ⟨⟨p1, p2⟩, r1, r2⟩ := pos_facts' h h2
  have q1 := ne_list (q := also) (by omega)
  have q2 := ne_isEmpty (q := also) (by omega)
  have a8 : also.size ≤ 8 := by omega
  have hs0 := sp_size (-off)
  have hs1 := sp_size (-aoff)
  have hs2 := sp_size a1
  have hs3 := sp_size a2
  have zX : (teX name off also aoff).size ≤ 80 := by rw [teX]; simp only [ByteArray.size_append]; omega
  have z1 := riT_size r1
  have hX : name ++ spV (-off) ++ also ++ spV (-aoff) = teX name off also aoff := rfl
  obtain ⟨⟨x1, rfl, hx1⟩, ⟨y1, rfl, hy1⟩, ⟨z1', rfl, hz1⟩, _, _⟩ := ri_nat r1
  obtain ⟨⟨x2, rfl, hx2⟩, ⟨y2, rfl, hy2⟩, ⟨z2', rfl, hz2⟩, _, _⟩ := ri_nat r2
  have g1 : riT x1 y1 z1' a1 = ⟨#[44, 77]⟩ ++ ⟨(Lib.decDigits x1).toArray⟩ ++ ⟨#[46]⟩ ++ ⟨(Lib.decDigits y1).toArray⟩ ++ ⟨#[46]⟩ ++ ⟨(Lib.decDigits z1').toArray⟩ ++ ⟨#[47]⟩ ++ spV a1 := rfl
  have g2 : riT x2 y2 z2' a2 = ⟨#[44, 77]⟩ ++ ⟨(Lib.decDigits x2).toArray⟩ ++ ⟨#[46]⟩ ++ ⟨(Lib.decDigits y2).toArray⟩ ++ ⟨#[46]⟩ ++ ⟨(Lib.decDigits z2').toArray⟩ ++ ⟨#[47]⟩ ++ spV a2 := rfl
  have G1 := Lib.hid g1
  have G2 := Lib.hid g2
  have HP := Lib.hid h
  clear g1 g2 h2 hal r1 r2
  obtain ⟨TX, hTX⟩ : ∃ X, teX name off also aoff = X := ⟨_, rfl⟩
  obtain ⟨R1, hR1⟩ : ∃ X, riT x1 y1 z1' a1 = X := ⟨_, rfl⟩
  obtain ⟨R2, hR2⟩ : ∃ X, riT x2 y2 z2' a2 = X := ⟨_, rfl⟩
  rw [hTX] at hX zX
  rw [hR1] at z1
  rw [hTX, hR1, hR2]
  rw [hR1] at G1
  rw [hR2] at G2
  clear hTX hR1 hR2
  go_enter Tryd.func8, Tryd.ntmps8
  go_wp2_with (first | (go_at_call 19; refine (r_RiteCheck _ _ _ _ _ _ _ _ _ _ _ _ hn hl _).mono ?_; rintro e w1 ⟨rfl, hb⟩; first | (obtain ⟨hcs, hz, hb'⟩ := boxc hb; clear hb) | (have K := keepc hcs hz hb' hb; clear hcs hz hb' hb; obtain ⟨hcs, hz, hb'⟩ := K)) | (go_at_call 11; refine (r_Span _ _).mono ?_; rintro e w1 ⟨rfl, hb⟩; first | (obtain ⟨hcs, hz, hb'⟩ := boxc hb; clear hb) | (have K := keepc hcs hz hb' hb; clear hcs hz hb' hb; obtain ⟨hcs, hz, hb'⟩ := K)))
  have HK := RK.start (t := 23) (c8 := #[.int .i64 x1, .int .i64 y1, .int .i64 z1', .int .i64 a1, .int .i64 x2, .int .i64 y2, .int .i64 z2', .int .i64 a2]) hcs hz hb'
  clear hcs hz hb' q1 q2
  go_loopw [9, 55] (fun s i wr => ∃ k : Nat, k ≤ 2 ∧ i = .int .i64 k ∧ s = .string (teAcc TX R1 R2 k) ∧ RK w wr #[.string name, .int .i64 off, .string also, .int .i64 aoff, .int .i64 x1, .int .i64 y1, .int .i64 z1', .int .i64 a1, .int .i64 x2, .int .i64 y2, .int .i64 z2', .int .i64 a2] #[.int .i64 x1, .int .i64 y1, .int .i64 z1', .int .i64 a1, .int .i64 x2, .int .i64 y2, .int .i64 z2', .int .i64 a2] w1.heap.size) (fun _ i _ => 2 - (intOf i).toNat)
  case atStart => exact ⟨0, by omega, rfl, by first | rfl | (show _ = Value.string TX; rw [← hX]), HK⟩
  case round =>
    clear HK
    obtain ⟨k, hk, rfl, rfl, HK⟩ := hrel
    have hcs := HK.1
    have hc8 := HK.2.2.2.1
    have t0 : teAcc TX R1 R2 0 = TX := rfl
    have t1 : teAcc TX R1 R2 1 = TX ++ R1 := rfl
    have t2 : teAcc TX R1 R2 2 = TX ++ R1 ++ R2 := rfl
    have hk3 : k = 0 ∨ k = 1 ∨ k = 2 := by omega
    rcases hk3 with rfl | rfl | rfl
    · rw [t0]
      clear t0 t1 t2
      obtain ⟨D1, hD1⟩ : ∃ X, (⟨(Lib.decDigits x1).toArray⟩ : ByteArray) = X := ⟨_, rfl⟩
      obtain ⟨D2, hD2⟩ : ∃ X, (⟨(Lib.decDigits y1).toArray⟩ : ByteArray) = X := ⟨_, rfl⟩
      obtain ⟨D3, hD3⟩ : ∃ X, (⟨(Lib.decDigits z1').toArray⟩ : ByteArray) = X := ⟨_, rfl⟩
      have hl1 : D1.size ≤ 3 := by rw [← hD1, dec_size]; exact dec_len3 (by omega)
      have hl2 : D2.size ≤ 3 := by rw [← hD2, dec_size]; exact dec_len3 (by omega)
      have hl3 : D3.size ≤ 3 := by rw [← hD3, dec_size]; exact dec_len3 (by omega)
      have b1 : ¬ 9223372036854775807 < 2 + D1.size := by omega
      have b2 : ¬ 9223372036854775807 < 2 + D1.size + 1 := by omega
      have b3 : ¬ 9223372036854775807 < 2 + D1.size + 1 + D2.size := by omega
      have b4 : ¬ 9223372036854775807 < 2 + D1.size + 1 + D2.size + 1 := by omega
      have b5 : ¬ 9223372036854775807 < 2 + D1.size + 1 + D2.size + 1 + D3.size := by omega
      have b6 : ¬ 9223372036854775807 < 2 + D1.size + 1 + D2.size + 1 + D3.size + 1 := by omega
      have b7 : ¬ 9223372036854775807 < 2 + D1.size + 1 + D2.size + 1 + D3.size + 1 + (spV a1).size := by omega
      have b8 : ¬ 9223372036854775807 < TX.size + (2 + D1.size + 1 + D2.size + 1 + D3.size + 1 + (spV a1).size) := by omega
      rw [hD1, hD2, hD3] at G1
      go_wp2_with fail
      refine (r_Span _ _).mono ?_
      rintro e w2 ⟨rfl, hb⟩
      obtain ⟨hr1, hr2, hr3⟩ := boxc hb
      have hH : (∀ i, w2.cell? ⟨wr.heap.size, i, none⟩ = (#[.int .i64 x1, .int .i64 y1, .int .i64 z1', .int .i64 a1] : Array Value)[i]?) ∧ wr.heap.size < w2.heap.size ∧ RK w w2 #[.string name, .int .i64 off, .string also, .int .i64 aoff, .int .i64 x1, .int .i64 y1, .int .i64 z1', .int .i64 a1, .int .i64 x2, .int .i64 y2, .int .i64 z2', .int .i64 a2] #[.int .i64 x1, .int .i64 y1, .int .i64 z1', .int .i64 a1, .int .i64 x2, .int .i64 y2, .int .i64 z2', .int .i64 a2] w1.heap.size := ⟨hr1, hr2, HK.step hr3⟩
      clear hb hr1 hr2 hr3 hcs hc8 HK
      go_wp2_with fail
      go_region_held3 (fun w' => (∀ i, w'.cell? ⟨wr.heap.size, i, none⟩ = (#[.int .i64 x1, .int .i64 y1, .int .i64 z1', .int .i64 a1] : Array Value)[i]?) ∧ wr.heap.size < w'.heap.size ∧ RK w w' #[.string name, .int .i64 off, .string also, .int .i64 aoff, .int .i64 x1, .int .i64 y1, .int .i64 z1', .int .i64 a1, .int .i64 x2, .int .i64 y2, .int .i64 z2', .int .i64 a2] #[.int .i64 x1, .int .i64 y1, .int .i64 z1', .int .i64 a1, .int .i64 x2, .int .i64 y2, .int .i64 z2', .int .i64 a2] w1.heap.size)
        (first | exact RKB.drew hH | assumption | exact RKB.step (by assumption) (by assumption))
        (first | (go_at_call 20; refine (r_Digits _ (by omega) _).mono ?_; rintro e w5 ⟨rfl, hb5⟩))
      rename_i hG
      go_wp2_with fail
      exact ⟨⟨1, by omega, by go_num, congrArg Value.string (by rw [show teAcc TX R1 R2 1 = TX ++ R1 from rfl, G1.out]), hG.2.2⟩, by simp [intOf]⟩
    · rw [t1]
      clear t0 t1 t2
      obtain ⟨D1, hD1⟩ : ∃ X, (⟨(Lib.decDigits x2).toArray⟩ : ByteArray) = X := ⟨_, rfl⟩
      obtain ⟨D2, hD2⟩ : ∃ X, (⟨(Lib.decDigits y2).toArray⟩ : ByteArray) = X := ⟨_, rfl⟩
      obtain ⟨D3, hD3⟩ : ∃ X, (⟨(Lib.decDigits z2').toArray⟩ : ByteArray) = X := ⟨_, rfl⟩
      have hl1 : D1.size ≤ 3 := by rw [← hD1, dec_size]; exact dec_len3 (by omega)
      have hl2 : D2.size ≤ 3 := by rw [← hD2, dec_size]; exact dec_len3 (by omega)
      have hl3 : D3.size ≤ 3 := by rw [← hD3, dec_size]; exact dec_len3 (by omega)
      have b1 : ¬ 9223372036854775807 < 2 + D1.size := by omega
      have b2 : ¬ 9223372036854775807 < 2 + D1.size + 1 := by omega
      have b3 : ¬ 9223372036854775807 < 2 + D1.size + 1 + D2.size := by omega
      have b4 : ¬ 9223372036854775807 < 2 + D1.size + 1 + D2.size + 1 := by omega
      have b5 : ¬ 9223372036854775807 < 2 + D1.size + 1 + D2.size + 1 + D3.size := by omega
      have b6 : ¬ 9223372036854775807 < 2 + D1.size + 1 + D2.size + 1 + D3.size + 1 := by omega
      have b7 : ¬ 9223372036854775807 < 2 + D1.size + 1 + D2.size + 1 + D3.size + 1 + (spV a2).size := by omega
      have b8 : ¬ 9223372036854775807 < (TX.size + R1.size) + (2 + D1.size + 1 + D2.size + 1 + D3.size + 1 + (spV a2).size) := by omega
      rw [hD1, hD2, hD3] at G2
      go_wp2_with fail
      refine (r_Span _ _).mono ?_
      rintro e w2 ⟨rfl, hb⟩
      obtain ⟨hr1, hr2, hr3⟩ := boxc hb
      have hH : (∀ i, w2.cell? ⟨wr.heap.size, i, none⟩ = (#[.int .i64 x2, .int .i64 y2, .int .i64 z2', .int .i64 a2] : Array Value)[i]?) ∧ wr.heap.size < w2.heap.size ∧ RK w w2 #[.string name, .int .i64 off, .string also, .int .i64 aoff, .int .i64 x1, .int .i64 y1, .int .i64 z1', .int .i64 a1, .int .i64 x2, .int .i64 y2, .int .i64 z2', .int .i64 a2] #[.int .i64 x1, .int .i64 y1, .int .i64 z1', .int .i64 a1, .int .i64 x2, .int .i64 y2, .int .i64 z2', .int .i64 a2] w1.heap.size := ⟨hr1, hr2, HK.step hr3⟩
      clear hb hr1 hr2 hr3 hcs hc8 HK
      go_wp2_with fail
      go_region_held3 (fun w' => (∀ i, w'.cell? ⟨wr.heap.size, i, none⟩ = (#[.int .i64 x2, .int .i64 y2, .int .i64 z2', .int .i64 a2] : Array Value)[i]?) ∧ wr.heap.size < w'.heap.size ∧ RK w w' #[.string name, .int .i64 off, .string also, .int .i64 aoff, .int .i64 x1, .int .i64 y1, .int .i64 z1', .int .i64 a1, .int .i64 x2, .int .i64 y2, .int .i64 z2', .int .i64 a2] #[.int .i64 x1, .int .i64 y1, .int .i64 z1', .int .i64 a1, .int .i64 x2, .int .i64 y2, .int .i64 z2', .int .i64 a2] w1.heap.size)
        (first | exact RKB.drew hH | assumption | exact RKB.step (by assumption) (by assumption))
        (first | (go_at_call 20; refine (r_Digits _ (by omega) _).mono ?_; rintro e w5 ⟨rfl, hb5⟩))
      rename_i hG
      go_wp2_with fail
      exact ⟨⟨2, by omega, by go_num, congrArg Value.string (by rw [show teAcc TX R1 R2 2 = TX ++ R1 ++ R2 from rfl, G2.out]), hG.2.2⟩, by simp [intOf]⟩
    · rw [t2]
      clear t0 t1 t2
      go_wp2_with fail
      go_ret2
      exact ⟨ret_si' rfl h.symm, HK.2.2.1⟩
theorem r_RiteText (name also : ByteArray) (off aoff m1 k1 d1 a1 m2 k2 d2 a2 : Int) (hn : name.size ≤ maxLen) (hl : also.size ≤ maxLen) (w : World) :
    Calls Tryd.prog 8 #[.agg #[.string name, .int .i64 off, .string also, .int .i64 aoff, .int .i64 m1, .int .i64 k1, .int .i64 d1, .int .i64 a1, .int .i64 m2, .int .i64 k2, .int .i64 d2, .int .i64 a2]] w fun e w' => e = .returned (.tuple #[.string (teV name also off aoff m1 k1 d1 a1 m2 k2 d2 a2), .int .i64 (posE name off also aoff m1 k1 d1 a1 m2 k2 d2 a2)]) ∧ Below w.heap.size w w' := by
  by_cases h : posE name off also aoff m1 k1 d1 a1 m2 k2 d2 a2 = 0
  · by_cases h2 : also.size = 0
    · exact r_RiteText_none name also off aoff m1 k1 d1 a1 m2 k2 d2 a2 hn hl (Or.inr ⟨h, h2⟩) w
    · exact r_RiteText_full name also off aoff m1 k1 d1 a1 m2 k2 d2 a2 hn hl h h2 w
  · exact r_RiteText_none name also off aoff m1 k1 d1 a1 m2 k2 d2 a2 hn hl (Or.inl h) w
end Go.Proofs.YtelgehpfjpbboaaDoor
