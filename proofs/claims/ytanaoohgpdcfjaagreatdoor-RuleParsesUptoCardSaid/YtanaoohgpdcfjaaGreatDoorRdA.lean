/- strings.Split at a colon, strconv.Atoi at any text: what they do, from the shelf. -/
import Derived.Test.YtanaoohgpdcfjaaGreatDoorRdQ
import Derived.Test.YtanaoohgpdcfjaaGreatDoorSpA
import Derived.Test.YtanaoohgpdcfjaaGreatDoorShelfB
import Derived.Test.YtanaoohgpdcfjaaGreatDoorBase
import Derived.Lib.SplitLaws
import Derived.Lib.AtoiErrMem
namespace Go.Proofs.YtanaoohgpdcfjaaGreatDoor
open Go.RowKit
set_option linter.unusedVariables false
theorem countB_one (s : ByteArray) (c : UInt8) : Lib.countB s ⟨#[c]⟩ = s.data.toList.count c := Lib.count_one c s.data.toList
theorem genSplit_one (s : ByteArray) (c : UInt8) (hs : s.size < 4294967281) (w : World) :
    Calls Tryz.prog 112 #[.string s, .string ⟨#[c]⟩, .int .i64 0, .int .i64 (-1)] w fun e w' => ∃ ws : List ByteArray, ws.map (·.data.toList) = lSplit c s.data.toList ∧ e = .returned (.slice (some ⟨w.heap.size, 0, none⟩) ws.length ws.length) ∧ w' = w.alloc (.cells (ws.map Value.string).toArray 9) := by
  have hle := Lib.countB_le ⟨#[c]⟩ (Nat.le_refl 1) s.size s (Nat.le_refl _)
  have hlen := Lib.splitB_all ⟨#[c]⟩ (Nat.le_refl 1) 0 _ s rfl
  have hI : ∀ (x : ByteArray) (cs : Array Value), x.size ≤ s.size → Calls Tryz.prog 156 #[.string x, .string ⟨#[c]⟩] (w.alloc (.cells cs 9)) fun e w' => e = .returned (.int .i64 (Lib.indexB x ⟨#[c]⟩)) ∧ w' = w.alloc (.cells cs 9) := by
    intro x cs _
    rw [index_one]
    exact Tryz.strings_Index_one x c _
  have hC : Calls Tryz.prog 149 #[.string s, .string ⟨#[c]⟩] w fun e w' => e = .returned (.int .i64 (Lib.countB s ⟨#[c]⟩)) ∧ w' = w := by
    rw [countB_one]
    exact Tryz.strings_Count_one s c w
  have C := Any.strings_genSplit_core Tryz.lays221 (by kernel_rfl) s ⟨#[c]⟩ 0 (-1) (Lib.countB s ⟨#[c]⟩ + 1) w hs (Nat.le_refl 1) (Nat.zero_le _) hI hC (by decide) (by decide) (by rw [if_pos (by decide)]; omega)
  rw [Nat.add_sub_cancel, hlen] at C
  refine C.mono ?_
  rintro e w' ⟨rfl, rfl⟩
  refine ⟨Lib.splitB ⟨#[c]⟩ 0 (Lib.countB s ⟨#[c]⟩) s, splitB_one c _ s (countB_one s c).symm, by rw [hlen], ?_⟩
  rw [← Lib.cellsOf_full, hlen]
  rfl
theorem split_one (s : ByteArray) (c : UInt8) (hs : s.size < 4294967281) (w : World) :
    Calls Tryz.prog 57 #[.string s, .string ⟨#[c]⟩] w fun e w' => ∃ ws : List ByteArray, ws.map (·.data.toList) = lSplit c s.data.toList ∧ e = .returned (.slice (some ⟨w.heap.size, 0, none⟩) ws.length ws.length) ∧ w' = w.alloc (.cells (ws.map Value.string).toArray 9) := by
  go_enter Tryz.func57, Tryz.ntmps57
  go_wp2_with fail
  refine (genSplit_one s c hs _).mono ?_
  rintro e w1 ⟨ws, h1, rfl, rfl⟩
  go_wp2_with fail
  go_ret
  exact ⟨ws, h1, rfl, rfl⟩
/-- strconv.Atoi at any text: the number beside whatever error -/
theorem atoi_any (s : ByteArray) (hs : s.size ≤ 281474976710656) (te te2 : TypeId) (pe pe2 : Value) (w : World) (h1 : w.cell? ⟨1, 0, none⟩ = some (.iface te pe)) (h2 : w.cell? ⟨2, 0, none⟩ = some (.iface te2 pe2)) :
    Calls Tryz.prog 58 #[.string s] w fun e w' => ∃ er, e = .returned (.tuple #[.int .i64 (atV s.data.toList), er]) ∧ Below w.heap.size w w' := by
  cases h : Lib.atoiAll s.data.toList with
  | ok v =>
    refine (Tryz.strconv_Atoi_ok s (by omega) v h w).mono ?_
    rintro e w' ⟨rfl, h⟩
    rw [atV, ‹Lib.atoiAll s.data.toList = _›]
    refine ⟨_, rfl, ?_⟩
    rcases h with rfl | ⟨t, rfl⟩
    · exact Below.refl _ _
    · exact Lib.bytesWorld_below _ _ _
  | «syntax» =>
    refine (Tryz.strconv_Atoi_syntax s hs h _ w h1 (Or.inr ⟨te, pe, rfl⟩)).mono ?_
    rintro e w' ⟨N, rfl, _, _, hb⟩
    rw [atV, h]
    exact ⟨_, rfl, hb⟩
  | range =>
    refine (Tryz.strconv_Atoi_range s hs h _ w h2 (Or.inr ⟨te2, pe2, rfl⟩)).mono ?_
    rintro e w' ⟨N, rfl, _, _, hb⟩
    rw [atV, h]
    exact ⟨_, rfl, hb⟩
end Go.Proofs.YtanaoohgpdcfjaaGreatDoor
