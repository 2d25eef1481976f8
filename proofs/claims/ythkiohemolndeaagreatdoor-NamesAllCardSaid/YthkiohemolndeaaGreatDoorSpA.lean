/- Walks of clock.two and clock.Span. -/
import Derived.Test.YthkiohemolndeaaGreatDoorPln
import Derived.Laws.IdiomStrings
import Derived.Lib.AppendIntMem
import Derived.Test.YthkiohemolndeaaGreatDoorShelf
namespace Go.Proofs.YthkiohemolndeaaGreatDoor
open Go.RowKit
set_option linter.unusedVariables false
theorem conv_two (w : World) (t : TypeId) (a b : Int) (ha : 0 ≤ a ∧ a < 256) (hb : 0 ≤ b ∧ b < 256) (c : Nat) :
    (Go.convert 144 9 (.slice (some ⟨w.heap.size, 0, none⟩) 2 c)).run Tryz.prog (w.alloc (.cells #[.int .u8 a, .int .u8 b] t)) = .ok (.string ⟨#[UInt8.ofNat a.toNat, UInt8.ofNat b.toNat]⟩) (w.alloc (.cells #[.int .u8 a, .int .u8 b] t)) := by
  have := run_convert_bytes_back (P := Tryz.prog) (w.alloc (.cells #[.int .u8 a, .int .u8 b] t)) 144 9 5 ⟨w.heap.size, 0, none⟩ c [UInt8.ofNat a.toNat, UInt8.ofNat b.toNat] Tryz.underlying144 Tryz.underlying5 Tryz.underlying9
    (fun j hj => by
      have hj2 : j = 0 ∨ j = 1 := by simp at hj; omega
      rcases hj2 with rfl | rfl
      · show (w.alloc (.cells #[.int .u8 a, .int .u8 b] t)).cell? ⟨w.heap.size, 0, none⟩ = _
        simp; omega
      · show (w.alloc (.cells #[.int .u8 a, .int .u8 b] t)).cell? ⟨w.heap.size, 0 + 1, none⟩ = _
        simp; omega)
  simpa using this
set_option maxHeartbeats 1000000 in
theorem k_two (m : Nat) (h : m < 100) (w : World) :
    Calls Tryz.prog 63 #[.int .i64 m] w fun e w' => e = .returned (.string (twoB m)) ∧ Below w.heap.size w w' := by
  obtain ⟨q, hq⟩ : ∃ q, m / 10 = q := ⟨_, rfl⟩
  obtain ⟨r, hr⟩ : ∃ r, m % 10 = r := ⟨_, rfl⟩
  have HV : Hid (twoB m = ⟨#[UInt8.ofNat (48 + (q : Int)).toNat, UInt8.ofNat (48 + (r : Int)).toNat]⟩) := Lib.hid (by
    rw [twoB, hq, hr]; congr 4 <;> omega)
  have e1 : ((m : Int)).tdiv 10 = (q : Int) := by rw [Int.tdiv_eq_ediv_of_nonneg (by omega)]; omega
  have e2 : ((m : Int)).tmod 10 = (r : Int) := by rw [Int.tmod_eq_emod_of_nonneg (by omega)]; omega
  have e3 : ((m : Int)) / 10 = (q : Int) := by omega
  have e4 : ((m : Int)) % 10 = (r : Int) := by omega
  have hq9 : q < 10 := by omega
  have hr9 : r < 10 := by omega
  have kc := fun (t : TypeId) (c : Nat) => conv_two w t (48 + q) (48 + r) (by omega) (by omega) c
  rw [HV.out]
  clear hq hr HV
  go_enter Tryz.func63, Tryz.ntmps63
  go_wp2_with fail
  go_ret
  exact ⟨rfl, (by repeat (first | exact Below.refl _ _ | assumption | apply Below.drew | apply below_drewN | (refine Below.alloc ?_ (by simp; try omega) _) | (refine Below.setCell ?_ (by simp; try omega) _)))⟩
/-- what strconv.Itoa does here: of a number, in a world behind w -/
def ItoaIn (w : World) (h : Nat) : Prop := ∀ W, Below w.heap.size w W → Calls Tryz.prog 62 #[.int .i64 h] W fun e w' => e = .returned (.string ⟨(Lib.decDigits h).toArray⟩) ∧ Below W.heap.size W w'
theorem itoa_small (w : World) (h : Nat) (hh : h < 100) : ItoaIn w h := by
  intro W hb
  refine (Tryz.strconv_Itoa_small h hh W).mono ?_
  rintro e w' ⟨rfl, rfl⟩
  exact ⟨rfl, Below.refl _ _⟩
theorem itoa_nat (n : Nat) : Lib.itoa (n : Int) = Lib.decDigits n := by
  rw [Lib.itoa, if_neg (by omega)]; rfl
theorem itoa_tab (w : World) (h : Nat) (hh : h < 1000000) (ht : Lib.TabIs Tryz.prog w "internal/strconv.uint64pow10" .u64 Lib.pow10Tab) : ItoaIn w h := by
  intro W hb
  refine (Tryz.strconv_Itoa (h : Int) (by omega) (by omega) W (Lib.tabBelow_of_tabIs ht W hb)).mono ?_
  rintro e w' ⟨rfl, k, os, rfl⟩
  rw [itoa_nat]
  exact ⟨rfl, Lib.below_grow _ _ (Nat.le_refl _) _ _⟩
theorem ItoaIn.on {w w' : World} {h : Nat} (H : ItoaIn w h) (hb : Below w.heap.size w w') : ItoaIn w' h := fun W hW => H W (hb.trans (hW.mono hb.size))
end Go.Proofs.YthkiohemolndeaaGreatDoor
