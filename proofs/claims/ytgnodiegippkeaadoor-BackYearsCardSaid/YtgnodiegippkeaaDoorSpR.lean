/- Walks of the reference's Digits, fixed and Span. -/
import Derived.Test.YtgnodiegippkeaaDoorSpP
import Derived.Test.YtgnodiegippkeaaDoorCivR
import Derived.Laws.IdiomStrings
namespace Go.Proofs.YtgnodiegippkeaaDoor
open Go.RowKit
set_option linter.unusedVariables false
theorem conv_chr (w : World) (t : TypeId) (n : Int) (h0 : 0 ≤ n) (h1 : n < 256) (c : Nat) :
    (Go.convert 97 9 (.slice (some ⟨w.heap.size, 0, none⟩) 1 c)).run Tryd.prog (w.alloc (.cells #[.int .u8 n] t)) = .ok (.string ⟨#[UInt8.ofNat n.toNat]⟩) (w.alloc (.cells #[.int .u8 n] t)) := by
  have := run_convert_bytes_back (P := Tryd.prog) (w.alloc (.cells #[.int .u8 n] t)) 97 9 5 ⟨w.heap.size, 0, none⟩ c [UInt8.ofNat n.toNat] Tryd.underlying97 Tryd.underlying5 Tryd.underlying9
    (fun j hj => by
      obtain rfl : j = 0 := by simpa using hj
      show (w.alloc (.cells #[.int .u8 n] t)).cell? ⟨w.heap.size, 0, none⟩ = _
      simp; omega)
  simpa using this
set_option maxHeartbeats 1000000 in
theorem r_chr (n : Int) (h0 : 0 ≤ n) (h1 : n < 256) (w : World) :
    Calls Tryd.prog 39 #[.int .i64 n] w fun e w' => e = .returned (.string ⟨#[UInt8.ofNat n.toNat]⟩) ∧ Below w.heap.size w w' := by
  have kc := fun (t : TypeId) (c : Nat) => conv_chr w t n h0 h1 c
  go_enter Tryd.func39, Tryd.ntmps39
  go_wp2_with fail
  go_ret
  exact ⟨rfl, (by repeat (first | exact Below.refl _ _ | assumption | apply Below.drew | apply below_drewN | (refine Below.alloc ?_ (by simp; try omega) _) | (refine Below.setCell ?_ (by simp; try omega) _)))⟩
set_option maxHeartbeats 1000000 in
theorem r_Digits (n : Nat) (hn : n < 1000000) : ∀ w : World,
    Calls Tryd.prog 17 #[.int .i64 n] w fun e w' => e = .returned (.string ⟨(Lib.decDigits n).toArray⟩) ∧ Below w.heap.size w w' := by
  induction n using Nat.strongRecOn with
  | ind n ih =>
    intro w
    by_cases h1 : n < 10
    · have HV := Lib.hid (show (⟨#[UInt8.ofNat (48 + (n : Int)).toNat]⟩ : ByteArray) = ⟨(Lib.decDigits n).toArray⟩ by rw [dec_small h1]; congr 4)
      clear ih
      go_enter Tryd.func17, Tryd.ntmps17
      go_wp2_with (first | (go_at_call 39; refine (r_chr _ (by omega) (by omega) _).mono ?_; rintro e w1 ⟨rfl, hb⟩))
      go_ret
      exact ⟨congrArg (fun v => Ending.returned (.string v)) HV.out, hb⟩
    · have HV := Lib.hid (dec_join h1)
      have HI := Lib.hid (ih (n / 10) (by omega) (by omega))
      have hl := dec_len (n / 10)
      clear ih
      obtain ⟨q, hq⟩ : ∃ q, n / 10 = q := ⟨_, rfl⟩
      obtain ⟨r, hr⟩ : ∃ r, n % 10 = r := ⟨_, rfl⟩
      rw [hq] at HI hl
      rw [hq, hr] at HV
      have e1 : ((n : Int)).tdiv 10 = (q : Int) := by rw [Int.tdiv_eq_ediv_of_nonneg (by omega)]; omega
      have e2 : ((n : Int)).tmod 10 = (r : Int) := by rw [Int.tmod_eq_emod_of_nonneg (by omega)]; omega
      have e3 : ((n : Int)) / 10 = (q : Int) := by omega
      have e4 : ((n : Int)) % 10 = (r : Int) := by omega
      have hq9 : q < 1000000 := by omega
      have hr9 : r < 10 := by omega
      have HC := Lib.hid (show (48 + (r : Int)).toNat = 48 + r by omega)
      clear hq hr
      go_enter Tryd.func17, Tryd.ntmps17
      go_wp2_with fail
      refine (HI.out _).mono ?_
      rintro e w1 ⟨rfl, hb⟩
      go_wp2_with fail
      refine (r_chr _ (by omega) (by omega) _).mono ?_
      rintro e w2 ⟨rfl, hb2⟩
      go_wp2_with fail
      go_ret
      exact ⟨congrArg (fun v => Ending.returned (.string v)) ((congrArg (fun z => (⟨(Lib.decDigits q).toArray⟩ : ByteArray) ++ ⟨#[UInt8.ofNat z]⟩) HC.out).trans HV.out), hb.trans (hb2.mono hb.size)⟩
def strSz : Value → Nat
  | .string b => b.size
  | _ => 0
theorem span_size (m : Nat) (hm : m ≤ 604800) : (spanT m).size ≤ 20 := by
  have h := dec_len3 (show m / 3600 < 1000 by omega)
  have hs : ∀ n, (twoB n).size = 2 := fun _ => rfl
  have hd : (digB (m / 3600)).size = (Lib.decDigits (m / 3600)).length := dec_size _
  have h1 : (⟨#[58]⟩ : ByteArray).size = 1 := rfl
  rw [spanT]
  split
  · rw [ByteArray.size_append, ByteArray.size_append, hs, hd, h1]; omega
  · rw [ByteArray.size_append, ByteArray.size_append, ByteArray.size_append, ByteArray.size_append, hs, hs, hd, h1]; omega
end Go.Proofs.YtgnodiegippkeaaDoor
