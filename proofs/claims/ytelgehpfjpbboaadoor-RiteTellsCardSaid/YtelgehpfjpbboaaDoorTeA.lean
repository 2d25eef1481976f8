/- Walks of rite.text, rite.riteText and rite.Text. -/
import Derived.Test.YtelgehpfjpbboaaDoorTeP
import Derived.Test.YtelgehpfjpbboaaDoorSpA
import Derived.Test.YtelgehpfjpbboaaDoorRiB
import Derived.Deep.RegionHeld3
import Derived.Deep.DrawnRows
namespace Go.Proofs.YtelgehpfjpbboaaDoor
open Go.RowKit
set_option linter.unusedVariables false
theorem ret_si {a c : ByteArray} {b d : Int} (h : a = c) (g : b = d) : Ending.returned (.tuple #[.string a, .int .i64 b]) = .returned (.tuple #[.string c, .int .i64 d]) := by rw [h, g]
set_option maxHeartbeats 1000000 in
theorem i_text (name : ByteArray) (off : Int) (hn : name.size ≤ 8) (ho : -80000 ≤ off ∧ off ≤ 80000) (w : World) :
    Calls Tryd.prog 17 #[.string name, .int .i64 off] w fun e w' => e = .returned (.string (name ++ spV (-off))) ∧ Below w.heap.size w w' := by
  have HI := itoa_small w ((-off).natAbs / 3600) (by omega)
  have HK := Lib.hid (k_Span (-off) w HI)
  have hs := sp_size (-off)
  clear HI
  obtain ⟨o1, o2⟩ := ho
  go_enter Tryd.func17, Tryd.ntmps17
  go_wp2_with fail
  refine HK.out.mono ?_
  rintro e w1 ⟨rfl, hb⟩
  go_wp2_with fail
  go_ret
  exact ⟨rfl, hb⟩
attribute [local go_sem ↓] Go.wp_at_zero Go.wp_at_succ
set_option maxRecDepth 100000 in
set_option maxHeartbeats 2000000 in
theorem i_riteText (m k d a : Int) (h : riOk m k d a = true) (w : World) :
    Calls Tryd.prog 18 #[.agg #[.int .i64 m, .int .i64 k, .int .i64 d, .int .i64 a]] w fun e w' => e = .returned (.string (riT m k d a)) ∧ Below w.heap.size w w' := by
  obtain ⟨⟨x, rfl, hx⟩, ⟨y, rfl, hy⟩, ⟨z, rfl, hz⟩, ha1, ha2⟩ := ri_nat h
  have hr : riT x y z a = ⟨#[44, 77]⟩ ++ ⟨(Lib.decDigits x).toArray⟩ ++ ⟨#[46]⟩ ++ ⟨(Lib.decDigits y).toArray⟩ ++ ⟨#[46]⟩ ++ ⟨(Lib.decDigits z).toArray⟩ ++ ⟨#[47]⟩ ++ spV a := rfl
  rw [hr]
  have l1 := dec_len3 (show x < 1000 by omega)
  have l2 := dec_len3 (show y < 1000 by omega)
  have l3 := dec_len3 (show z < 1000 by omega)
  have hs := sp_size a
  have HK := Lib.hid (fun W => k_Span a W (itoa_small W (a.natAbs / 3600) (by omega)))
  clear hr h
  go_enter Tryd.func18, Tryd.ntmps18
  go_wp2_with fail
  refine (HK.out _).mono ?_
  rintro e w1 ⟨rfl, hb⟩
  obtain ⟨hcs, hzz, hb'⟩ := boxc hb
  clear hb
  go_wp2_with fail
  go_quiet ((go_at_call 24; exact Calls.quiet_of_same (Tryd.strconv_Itoa_small _ (by omega) _)))
  go_wp2_with fail
  go_ret
  exact ⟨rfl, below_drewN hb' _⟩
set_option maxRecDepth 100000 in
set_option maxHeartbeats 2000000 in
theorem i_Text (name also : ByteArray) (off aoff m1 k1 d1 a1 m2 k2 d2 a2 : Int) (hn : name.size ≤ maxLen) (hl : also.size ≤ maxLen) (w : World) :
    Calls Tryd.prog 7 #[.agg #[.string name, .int .i64 off, .string also, .int .i64 aoff, .int .i64 m1, .int .i64 k1, .int .i64 d1, .int .i64 a1, .int .i64 m2, .int .i64 k2, .int .i64 d2, .int .i64 a2]] w fun e w' => e = .returned (.tuple #[.string (teV name also off aoff m1 k1 d1 a1 m2 k2 d2 a2), .int .i64 (posE name off also aoff m1 k1 d1 a1 m2 k2 d2 a2)]) ∧ Below w.heap.size w w' := by
  by_cases h : posE name off also aoff m1 k1 d1 a1 m2 k2 d2 a2 = 0
  · have hp := pos_name h
    obtain ⟨n3, n8, hal, o1, o2⟩ := hp
    have HT1 := Lib.hid (fun w => i_text name off n8 (by omega) w)
    have hs0 := sp_size (-off)
    by_cases h2 : also.size = 0
    · rw [te_none h h2]
      have q1 := em_list h2
      have q2 := em_isEmpty h2
      clear h2 hal
      go_enter Tryd.func7, Tryd.ntmps7
      go_wp2_with (first | (go_at_call 9; refine (i_Check _ _ _ _ _ _ _ _ _ _ _ _ hn hl _).mono ?_; rintro e w1 ⟨rfl, hb⟩; first | (obtain ⟨hcs, hz, hb'⟩ := boxc hb; clear hb) | (have K := keepc hcs hz hb' hb; clear hcs hz hb' hb; obtain ⟨hcs, hz, hb'⟩ := K)))
      refine (HT1.out _).mono ?_
      rintro e w1 ⟨rfl, hb⟩
      have hS := keepc hcs hz hb' hb
      clear hcs hz hb' hb
      obtain ⟨hcs, hz, hb'⟩ := hS
      go_wp2_with fail
      go_ret2
      exact ⟨ret_si rfl h.symm, hb'⟩
    · rw [te_full h h2, ← te_prog]
      obtain ⟨⟨p1, p2⟩, r1, r2⟩ := pos_facts' h h2
      have q1 := ne_list (q := also) (by omega)
      have q2 := ne_isEmpty (q := also) (by omega)
      have a8 : also.size ≤ 8 := by omega
      have HT2 := Lib.hid (fun w => i_text also aoff a8 (by omega) w)
      have HR1 := Lib.hid r1
      have HR2 := Lib.hid r2
      have z1 := riT_size r1
      have z2 := riT_size r2
      have z3 : (also ++ spV (-aoff)).size ≤ 40 := by rw [ByteArray.size_append]; have := sp_size (-aoff); omega
      have z4 : (name ++ spV (-off)).size ≤ 40 := by rw [ByteArray.size_append]; omega
      clear h2 hal r1 r2
      obtain ⟨X0, hX0⟩ : ∃ X, name ++ spV (-off) = X := ⟨_, rfl⟩
      obtain ⟨X1, hX1⟩ : ∃ X, also ++ spV (-aoff) = X := ⟨_, rfl⟩
      obtain ⟨R1, hR1⟩ : ∃ X, riT m1 k1 d1 a1 = X := ⟨_, rfl⟩
      obtain ⟨R2, hR2⟩ : ∃ X, riT m2 k2 d2 a2 = X := ⟨_, rfl⟩
      simp only [hX0] at HT1
      simp only [hX1] at HT2
      rw [hR1] at z1
      rw [hR2] at z2
      rw [hX1] at z3
      rw [hX0] at z4
      rw [hX0, hX1, hR1, hR2]
      clear hX0 hX1
      have w1' : ¬ 9223372036854775807 < X1.size + R1.size := by omega
      have w2' : ¬ 9223372036854775807 < X1.size + R1.size + R2.size := by omega
      have w3' : ¬ 9223372036854775807 < X0.size + (X1.size + R1.size + R2.size) := by omega
      go_enter Tryd.func7, Tryd.ntmps7
      go_wp2_with (first | (go_at_call 9; refine (i_Check _ _ _ _ _ _ _ _ _ _ _ _ hn hl _).mono ?_; rintro e w1 ⟨rfl, hb⟩; first | (obtain ⟨hcs, hz, hb'⟩ := boxc hb; clear hb) | (have K := keepc hcs hz hb' hb; clear hcs hz hb' hb; obtain ⟨hcs, hz, hb'⟩ := K)))
      refine (HT1.out _).mono ?_
      rintro e w1 ⟨rfl, hb⟩
      have hS := keepc hcs hz hb' hb
      clear hcs hz hb' hb
      go_wp2_with fail
      go_region_held3 (fun w' => (∀ i, w'.cell? ⟨w.heap.size, i, none⟩ = (#[.string name, .int .i64 off, .string also, .int .i64 aoff, .int .i64 m1, .int .i64 k1, .int .i64 d1, .int .i64 a1, .int .i64 m2, .int .i64 k2, .int .i64 d2, .int .i64 a2] : Array Value)[i]?) ∧ w.heap.size < w'.heap.size ∧ Below w.heap.size w w')
        (first | exact ⟨hS.1, hS.2.1, hS.2.2.drew⟩ | assumption | exact keepS (by assumption) (by assumption))
        (first | (go_at_call 17; refine (HT2.out _).mono ?_; rintro e w5 ⟨rfl, hb5⟩) | (go_at_call 18; refine (i_riteText _ _ _ _ ?_ _).mono ?_; (first | exact HR1.out | exact HR2.out); rintro e w5 ⟨rfl, hb5⟩))
      rename_i hG
      go_wp2_with fail
      go_ret2
      exact ⟨ret_si rfl h.symm, hG.2.2⟩
  · rw [te_bad h]
    go_enter Tryd.func7, Tryd.ntmps7
    go_wp2_with (first | (go_at_call 9; refine (i_Check _ _ _ _ _ _ _ _ _ _ _ _ hn hl _).mono ?_; rintro e w1 ⟨rfl, hb⟩; first | (obtain ⟨hcs, hz, hb'⟩ := boxc hb; clear hb) | (have K := keepc hcs hz hb' hb; clear hcs hz hb' hb; obtain ⟨hcs, hz, hb'⟩ := K)))
    go_ret2
    exact ⟨rfl, hb'⟩
end Go.Proofs.YtelgehpfjpbboaaDoor
