/- What the listed variables give to a text that is read; ReadSpan at the empty text. -/
import Derived.Test.YtanaoohgpdcfjaaGreatDoorDoorK
import Derived.Test.YtanaoohgpdcfjaaGreatDoorRdB
namespace Go.Proofs.YtanaoohgpdcfjaaGreatDoor
open Go.ChangeShapes Go.WideShapes Go.ChangeAt Go.RowKit
set_option linter.unusedVariables false
theorem er_of_laid {W : World} {r : List (String × DataW Unit)} (h : laidMet Tryz.prog (("strconv.ErrRange", Rows.laid_strconv_ErrRange) :: r) W) : ∃ te pe, W.cell? ⟨2, 0, none⟩ = some (.iface te pe) := by
  obtain ⟨a, s, hv, _⟩ := laid_sentinel (g := 2) h (by kernel_rfl) (by kernel_rfl) Tryz.underlying118 row_es Tryz.underlying252 Tryz.underlying254 rfl rfl Tryz.underlying9 (by kernel_rfl) (by kernel_rfl)
  have := World.var?_cell (show Tryz.prog.globalNamed "strconv.ErrRange" = some 2 by kernel_rfl) hv 0
  exact ⟨_, _, by simpa using this⟩
theorem rd_empty {a b : Int} (h : RdIs ⟨#[]⟩ a b) : a = 0 ∧ b = 3 := by
  rcases h with ⟨h1, h2, rfl⟩ | ⟨_, rfl, rfl⟩
  · obtain ⟨m, G, _⟩ := rd_good h1
    rw [h2] at G
    have := G.one.1
    exact absurd this (by decide)
  · exact ⟨rfl, rfl⟩
/-- all that reading asks of a world -/
structure RdW (w : World) : Prop where
  es : ∃ te pe, w.cell? ⟨1, 0, none⟩ = some (.iface te pe)
  er : ∃ te pe, w.cell? ⟨2, 0, none⟩ = some (.iface te pe)
  it : ∀ h, h < 1000000 → ItoaIn w h
theorem RdW.on {w w' : World} (h : RdW w) (hb : Below w.heap.size w w') : RdW w' := by
  obtain ⟨⟨t1, p1, h1⟩, ⟨t2, p2, h2⟩, h3⟩ := h
  exact ⟨⟨t1, p1, (hb.cell (show (⟨1, 0, none⟩ : Addr).block < w.heap.size from Lib.lt_of_cell h1)).trans h1⟩, ⟨t2, p2, (hb.cell (show (⟨2, 0, none⟩ : Addr).block < w.heap.size from Lib.lt_of_cell h2)).trans h2⟩, fun h hh => (h3 h hh).on hb⟩
theorem RdW.span {w : World} (H : RdW w) (s : ByteArray) (hs : s.size < 4294967281) :
    Calls Tryz.prog 61 #[.string s] w fun e w' => ∃ a b, e = .returned (.tuple #[.int .i64 a, .int .i64 b]) ∧ RdIs s a b ∧ Below w.heap.size w w' := by
  obtain ⟨⟨t1, p1, h1⟩, ⟨t2, p2, h2⟩, h3⟩ := H
  exact k_ReadSpan s hs t1 t2 p1 p2 w h1 h2 h3
theorem RdW.empty {w : World} (H : RdW w) :
    Calls Tryz.prog 61 #[.string ⟨#[]⟩] w fun e w' => e = .returned (.tuple #[.int .i64 0, .int .i64 3]) ∧ Below w.heap.size w w' := by
  refine (H.span ⟨#[]⟩ (by decide)).mono ?_
  rintro e w' ⟨a, b, rfl, h, hb⟩
  obtain ⟨rfl, rfl⟩ := rd_empty h
  exact ⟨rfl, hb⟩
end Go.Proofs.YtanaoohgpdcfjaaGreatDoor
