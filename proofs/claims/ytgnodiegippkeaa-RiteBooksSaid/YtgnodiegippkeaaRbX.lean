/- The end of the reference's RiteBook, whatever order its last statement took. -/
import Derived.Test.YtgnodiegippkeaaRbV
import Derived.Test.YtgnodiegippkeaaRbB
import Derived.Test.YtgnodiegippkeaaOwnSl
namespace Go.Proofs.Ytgnodiegippkeaa
open Go.RowKit
set_option linter.unusedVariables false
theorem R4.alloc {w W : World} {cs : Array Value} {fr to : Int} (h : R4 w W cs fr to) (o : Obj) : R4 w (W.alloc o) cs fr to := h.step ((Below.refl _ _).alloc (Nat.le_refl _) _)
theorem R4.drew {w W : World} {cs : Array Value} {fr to : Int} (h : R4 w W cs fr to) : R4 w W.drew cs fr to := h.step (Below.refl _ _).drew
theorem sl_bx {W : World} {g size : Nat} {xss : List (List Value)} (h : Bx g W xss.flatten.toArray) (hx : ∀ xs ∈ xss, xs.length = size) : SlAt W W.heap.size size (some ⟨g, 0, none⟩) xss := by
  intro hn
  refine ⟨g, 0, rfl, h.2.2, fun i hi j hj => ?_⟩
  rw [show 0 + i * size + j = i * size + j by omega, h.1 (i * size + j), List.getElem?_toArray, flat_get xss i j hx hi hj]
theorem bx_ne {W : World} {g g' : Nat} {cs cs' : Array Value} (h : Bx g W cs) (h' : Bx g' W cs') (hne : ¬ cs[0]? = cs'[0]?) : g ≠ g' := by
  rintro rfl
  exact hne ((h.1 0).symm.trans (h'.1 0))
theorem rb_fin {f : Func} {a : Act} {w U : World} {cs : Array Value} {fr to : Int} {gr ge gz : Nat} {rs : List RuT} {nm : ByteArray} {er : ErT}
    (hres : ∀ W : World, W.cell? ⟨w.heap.size + 1 + 1 + 1, 0, none⟩ = some (.slice (some ⟨gr, 0, none⟩) 2 2) → W.cell? ⟨w.heap.size + 1 + 1 + 1, 1, none⟩ = some (.slice (some ⟨gz, 0, none⟩) 1 1) → W.cell? ⟨w.heap.size + 1 + 1 + 1, 2, none⟩ = some (.slice none 0 0) →
      (results f a.tmps).run Try.prog W = .ok (.tuple #[.agg #[.slice (some ⟨gr, 0, none⟩) 2 2, .slice (some ⟨gz, 0, none⟩) 1 1, .slice none 0 0], .int .i64 0]) W) (hd : a.defers = []) (hrs : rs.length = 2)
    (hU : R4 w U cs fr to) (hr : Bx gr U (rs.map ruC).flatten.toArray) (he : Bx ge U (erC er).toArray) (hz : Bx gz U #[.string nm, .slice (some ⟨ge, 0, none⟩) 1 1]) :
    bodyPost Try.prog f (fun e w' => ∃ A ca g cz E ce, e = .returned (.tuple #[.agg #[.slice A 2 ca, .slice (some ⟨g, 0, none⟩) 1 cz, .slice none 0 0], .int .i64 0]) ∧ Below w.heap.size w w' ∧ BkOk w' rs nm er A ca g cz E ce)
      .ret a (((U.setCell ⟨w.heap.size + 1 + 1 + 1, 0, none⟩ (.slice (some ⟨gr, 0, none⟩) 2 2)).setCell ⟨w.heap.size + 1 + 1 + 1, 1, none⟩ (.slice (some ⟨gz, 0, none⟩) 1 1)).setCell ⟨w.heap.size + 1 + 1 + 1, 2, none⟩ (.slice none 0 0)) := by
  obtain ⟨h1, h2, h3, h4, hb⟩ := hU
  have n1 : w.heap.size + 1 + 1 + 1 ≠ gr := bx_ne h4 hr (by
    match rs, hrs with
    | [x, y], _ => simp [ruC])
  have n2 : w.heap.size + 1 + 1 + 1 ≠ ge := bx_ne h4 he (by simp [erC])
  have n3 : w.heap.size + 1 + 1 + 1 ≠ gz := bx_ne h4 hz (by simp)
  obtain ⟨q0, q1, q2⟩ := set3' (W := U) (g := w.heap.size + 1 + 1 + 1) (x := .slice (some ⟨gr, 0, none⟩) 2 2) (y := .slice (some ⟨gz, 0, none⟩) 1 1) (z := .slice none 0 0) (h4.1 0) (h4.1 1) (h4.1 2)
  have hsl : SlAt U U.heap.size 11 (some ⟨gr, 0, none⟩) (rs.map ruC) := sl_bx hr (by intro xs hx; obtain ⟨r, _, rfl⟩ := List.mem_map.1 hx; rfl)
  refine bodyPost_ret (hres _ q0 q1 q2) hd ⟨_, 2, _, 1, _, 1, rfl, below_set3 hb (by omega), bk_set hsl (fun b o e => by cases e; exact n1) (by omega) (by unfold maxLen; omega) hz.2.2 n3 (hz.1 0) (hz.1 1) he.2.2 n2 (fun j hj => (he.1 j).trans (by simp)) (by omega) (by unfold maxLen; omega) (by omega) (by unfold maxLen; omega)⟩
end Go.Proofs.Ytgnodiegippkeaa
