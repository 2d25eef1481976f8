/- day.weekday; strings.Cut from a world where MaxLen is an int; what reading asks of a world. -/
import Derived.Test.YtanaoohgpdcfjaaGreatDoorRyP
import Derived.Test.YtanaoohgpdcfjaaGreatDoorRdA
namespace Go.Proofs.YtanaoohgpdcfjaaGreatDoor
open Go.RowKit
set_option linter.unusedVariables false
theorem d_weekday (x : ByteArray) (w : World) : Calls Tryz.prog 116 #[.string x] w fun e w' => e = .returned (.int .i64 (Lib.idxOfS dayB x)) ∧ Below w.heap.size w w' := by
  go_enter Tryz.func116, Tryz.ntmps116
  go_wp2_with fail
  refine (Tryz.slices_Index_string w.heap.size 0 7 7 dayB x _ (by decide) (by decide) (fun j hj => ?_)).mono ?_
  · rw [cell_new _ _ _ _ _ rfl]
    have hj' : j < 7 := hj
    rcases (show j = 0 ∨ j = 1 ∨ j = 2 ∨ j = 3 ∨ j = 4 ∨ j = 5 ∨ j = 6 by omega) with rfl | rfl | rfl | rfl | rfl | rfl | rfl
    all_goals rfl
  rintro e w' ⟨rfl, rfl⟩
  go_wp2_with fail
  go_ret
  exact ⟨rfl, (Below.refl _ _).alloc (Nat.le_refl _) _⟩
/-- all that reading a day asks of a world -/
structure RdX (w : World) : Prop where
  es : ∃ te pe, w.cell? ⟨1, 0, none⟩ = some (.iface te pe)
  er : ∃ te pe, w.cell? ⟨2, 0, none⟩ = some (.iface te pe)
  ml : ∃ m, w.cell? ⟨3, 0, none⟩ = some (.int .i64 m)
theorem RdX.to {B : Nat} {w w' : World} (h : RdX w) (hb : Below B w w') (hB : w.heap.size ≤ B) : RdX w' := by
  obtain ⟨⟨t1, p1, h1⟩, ⟨t2, p2, h2⟩, ⟨m, h3⟩⟩ := h
  exact ⟨⟨t1, p1, (hb.cell (show (⟨1, 0, none⟩ : Addr).block < B from Nat.lt_of_lt_of_le (Lib.lt_of_cell h1) hB)).trans h1⟩, ⟨t2, p2, (hb.cell (show (⟨2, 0, none⟩ : Addr).block < B from Nat.lt_of_lt_of_le (Lib.lt_of_cell h2) hB)).trans h2⟩, ⟨m, (hb.cell (show (⟨3, 0, none⟩ : Addr).block < B from Nat.lt_of_lt_of_le (Lib.lt_of_cell h3) hB)).trans h3⟩⟩
theorem RdX.on {w w' : World} (h : RdX w) (hb : Below w.heap.size w w') : RdX w' := h.to hb (Nat.le_refl _)
theorem RdX.atoi {w : World} (h : RdX w) (s : ByteArray) (hs : s.size ≤ 281474976710656) :
    Calls Tryz.prog 58 #[.string s] w fun e w' => ∃ er, e = .returned (.tuple #[.int .i64 (atV s.data.toList), er]) ∧ Below w.heap.size w w' := by
  obtain ⟨⟨t1, p1, h1⟩, ⟨t2, p2, h2⟩, _⟩ := h
  exact atoi_any s hs t1 t2 p1 p2 w h1 h2
theorem RdX.cut {w : World} (h : RdX w) (s sep : ByteArray) (hs : s.size < 4294967281) :
    Calls Tryz.prog 117 #[.string s, .string sep] w fun e w' => e = .returned (.tuple #[.string ⟨(Lib.cut s.data.toList sep.data.toList).1.toArray⟩, .string ⟨(Lib.cut s.data.toList sep.data.toList).2.1.toArray⟩, .bool (Lib.cut s.data.toList sep.data.toList).2.2]) ∧ Below w.heap.size w w' := by
  obtain ⟨_, _, ⟨m, h3⟩⟩ := h
  refine (Tryz.strings_Cut s sep m w hs h3).mono ?_
  rintro e w' ⟨rfl, n, rfl⟩
  exact ⟨rfl, below_drewN (Below.refl _ _) n⟩
end Go.Proofs.YtanaoohgpdcfjaaGreatDoor
