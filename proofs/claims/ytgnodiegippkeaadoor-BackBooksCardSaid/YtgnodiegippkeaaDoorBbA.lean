/- Walk of back.era. -/
import Derived.Test.YtgnodiegippkeaaDoorBbP
import Derived.Test.YtgnodiegippkeaaDoorBlk
import Derived.RegionTactic
import Derived.Deep.RegionHeld3
import Derived.Deep.DrawnRows
namespace Go.Proofs.YtgnodiegippkeaaDoor
open Go.RowKit
set_option linter.unusedVariables false
attribute [local go_sem ↓] Go.wp_at_zero Go.wp_at_succ
set_option maxRecDepth 100000 in
set_option maxHeartbeats 2000000 in
theorem b_era (x : Ty) (hx : -75600 ≤ x.1 ∧ x.1 ≤ 75600) (w : World) :
    Calls Tryd.prog 24 #[.agg #[.int .i64 x.1, .bool x.2.1, .string x.2.2]] w fun e w' => e = .returned (.tuple #[.agg #[.int .i64 (eraTy x).off, .string ⟨#[]⟩, .int .i64 (eraTy x).save, .string x.2.2, .int .i64 0], .bool (eraOk x)]) ∧ Below w.heap.size w w' := by
  obtain ⟨o, sv, nm⟩ := x
  obtain ⟨h1, h2⟩ := hx
  simp only at h1 h2
  cases sv with
  | true =>
    have HE := Lib.hid (show (eraTy (o, true, nm)).off = o - 3600 ∧ (eraTy (o, true, nm)).save = 3600 ∧ eraOk (o, true, nm) = decide (-64800 ≤ o - 3600 ∧ o - 3600 ≤ 64800) from ⟨rfl, rfl, rfl⟩)
    rw [HE.out.1, HE.out.2.1, HE.out.2.2]
    clear HE
    by_cases g1 : -64800 ≤ o - 3600
    · by_cases g2 : o - 3600 ≤ 64800
      · have hd : decide (-64800 ≤ o - 3600 ∧ o - 3600 ≤ 64800) = true := decide_eq_true (by omega)
        rw [hd]
        clear hd
        go_enter Tryd.func24, Tryd.ntmps24
        go_wp2_with fail
        go_region
        all_goals
          go_wp2_with fail
          exact bodyPost_ret (v := .tuple #[.agg #[.int .i64 (o - 3600), .string ⟨#[]⟩, .int .i64 3600, .string nm, .int .i64 0], .bool true]) (by simp [results, Tryd.results24, go_sem]) rfl ⟨rfl, (by repeat (first | exact Below.refl _ _ | assumption | apply Below.drew | apply below_drewN | (refine Below.alloc ?_ (by simp; try omega) _) | (refine Below.setCell ?_ (by simp; try omega) _)))⟩
      · have hd : decide (-64800 ≤ o - 3600 ∧ o - 3600 ≤ 64800) = false := decide_eq_false (by omega)
        rw [hd]
        clear hd
        go_enter Tryd.func24, Tryd.ntmps24
        go_wp2_with fail
        go_region
        all_goals
          go_wp2_with fail
          exact bodyPost_ret (v := .tuple #[.agg #[.int .i64 (o - 3600), .string ⟨#[]⟩, .int .i64 3600, .string nm, .int .i64 0], .bool false]) (by simp [results, Tryd.results24, go_sem]; omega) rfl ⟨rfl, (by repeat (first | exact Below.refl _ _ | assumption | apply Below.drew | apply below_drewN | (refine Below.alloc ?_ (by simp; try omega) _) | (refine Below.setCell ?_ (by simp; try omega) _)))⟩
    · have hd : decide (-64800 ≤ o - 3600 ∧ o - 3600 ≤ 64800) = false := decide_eq_false (by omega)
      have hg : decide (-64800 ≤ o - 3600) = false := decide_eq_false g1
      rw [hd]
      clear hd
      go_enter Tryd.func24, Tryd.ntmps24
      go_wp2_with fail
      go_region
      all_goals
        go_wp2_with fail
        exact bodyPost_ret (v := .tuple #[.agg #[.int .i64 (o - 3600), .string ⟨#[]⟩, .int .i64 3600, .string nm, .int .i64 0], .bool false]) (by simp [results, Tryd.results24, go_sem]) rfl ⟨rfl, (by repeat (first | exact Below.refl _ _ | assumption | apply Below.drew | apply below_drewN | (refine Below.alloc ?_ (by simp; try omega) _) | (refine Below.setCell ?_ (by simp; try omega) _)))⟩
  | false =>
    have HE := Lib.hid (show (eraTy (o, false, nm)).off = o ∧ (eraTy (o, false, nm)).save = 0 ∧ eraOk (o, false, nm) = decide (-64800 ≤ o ∧ o ≤ 64800) from ⟨rfl, rfl, rfl⟩)
    rw [HE.out.1, HE.out.2.1, HE.out.2.2]
    clear HE
    by_cases g1 : -64800 ≤ o
    · by_cases g2 : o ≤ 64800
      · have hd : decide (-64800 ≤ o ∧ o ≤ 64800) = true := decide_eq_true (by omega)
        rw [hd]
        clear hd
        go_enter Tryd.func24, Tryd.ntmps24
        go_wp2_with fail
        go_region
        all_goals
          go_wp2_with fail
          exact bodyPost_ret (v := .tuple #[.agg #[.int .i64 (o), .string ⟨#[]⟩, .int .i64 0, .string nm, .int .i64 0], .bool true]) (by simp [results, Tryd.results24, go_sem]) rfl ⟨rfl, (by repeat (first | exact Below.refl _ _ | assumption | apply Below.drew | apply below_drewN | (refine Below.alloc ?_ (by simp; try omega) _) | (refine Below.setCell ?_ (by simp; try omega) _)))⟩
      · have hd : decide (-64800 ≤ o ∧ o ≤ 64800) = false := decide_eq_false (by omega)
        rw [hd]
        clear hd
        go_enter Tryd.func24, Tryd.ntmps24
        go_wp2_with fail
        go_region
        all_goals
          go_wp2_with fail
          exact bodyPost_ret (v := .tuple #[.agg #[.int .i64 (o), .string ⟨#[]⟩, .int .i64 0, .string nm, .int .i64 0], .bool false]) (by simp [results, Tryd.results24, go_sem]; omega) rfl ⟨rfl, (by repeat (first | exact Below.refl _ _ | assumption | apply Below.drew | apply below_drewN | (refine Below.alloc ?_ (by simp; try omega) _) | (refine Below.setCell ?_ (by simp; try omega) _)))⟩
    · have hd : decide (-64800 ≤ o ∧ o ≤ 64800) = false := decide_eq_false (by omega)
      have hg : decide (-64800 ≤ o) = false := decide_eq_false g1
      rw [hd]
      clear hd
      go_enter Tryd.func24, Tryd.ntmps24
      go_wp2_with fail
      go_region
      all_goals
        go_wp2_with fail
        exact bodyPost_ret (v := .tuple #[.agg #[.int .i64 (o), .string ⟨#[]⟩, .int .i64 0, .string nm, .int .i64 0], .bool false]) (by simp [results, Tryd.results24, go_sem]) rfl ⟨rfl, (by repeat (first | exact Below.refl _ _ | assumption | apply Below.drew | apply below_drewN | (refine Below.alloc ?_ (by simp; try omega) _) | (refine Below.setCell ?_ (by simp; try omega) _)))⟩
end Go.Proofs.YtgnodiegippkeaaDoor
