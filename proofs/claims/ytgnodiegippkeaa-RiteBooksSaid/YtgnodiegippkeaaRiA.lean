/- Walks of rite's isWord and checkRite. -/
import Derived.Test.YtgnodiegippkeaaRiP
import Derived.Test.YtgnodiegippkeaaRuleA
import Derived.Test.YtgnodiegippkeaaBoxes
import Derived.Test.YtgnodiegippkeaaShelf
namespace Go.Proofs.Ytgnodiegippkeaa
open Go.RowKit
set_option linter.unusedVariables false
theorem below_iter (w : World) (s : ByteArray) (pos : Nat) : Below w.heap.size w (w.iter s pos) := by
  unfold World.iter; exact (Below.refl _ _).alloc (Nat.le_refl _) _
set_option maxHeartbeats 400000 in
theorem i_within (n a b : Int) (w : World) :
    Calls Try.prog 63 #[.int .i64 n, .int .i64 a, .int .i64 b] w fun e w' => e = .returned (.bool (decide (a ≤ n ∧ n ≤ b))) ∧ w = w' := by
  by_cases h1 : a ≤ n
  all_goals
    go_enter Try.func63, Try.ntmps63
    go_wp2
    go_ret
    exact ⟨ret_bool (by simp; omega), rfl⟩
set_option maxHeartbeats 1000000 in
theorem i_any (s : ByteArray) (h : isAbbrB s.data.toList = true) (w : World) :
    Calls Try.prog 84 #[.string s, .string ⟨#[48, 49, 50, 51, 52, 53, 54, 55, 56, 57, 43, 45]⟩] w fun e w' => e = .returned (.bool (decide (0 ≤ Lib.indexAny s.data.toList DIGS))) ∧ Below w.heap.size w w' := by
  have H8 := Lib.hid (show s.size ≤ 8 by have := (abbr_max h).2; rwa [size_len] at this)
  have HA := Lib.hid (abbr_ascii h)
  clear h
  go_enter Try.func84, Try.ntmps84
  go_wp2_with fail
  refine (Try.strings_IndexAny_short s ⟨#[48, 49, 50, 51, 52, 53, 54, 55, 56, 57, 43, 45]⟩ _ (by decide) H8.out HA.out).mono ?_
  rintro e w1 ⟨rfl, pos, rfl⟩
  go_wp2_with fail
  go_ret
  exact ⟨rfl, below_iter _ _ _⟩
set_option maxHeartbeats 1000000 in
theorem i_isWord (s : ByteArray) (hs : s.size ≤ maxLen) (w : World) :
    Calls Try.prog 62 #[.string s] w fun e w' => e = .returned (.bool (wordB s.data.toList)) ∧ Below w.heap.size w w' := by
  have hW := word_eq s.data.toList
  rw [size_len] at hW
  by_cases h3 : 3 ≤ s.size
  · cases hA : isAbbrB s.data.toList with
    | false =>
      have HX := Lib.hid (show wordB s.data.toList = false by rw [← hW, hA]; simp)
      clear hW
      go_enter Try.func62, Try.ntmps62
      go_wp2_with fail
      refine (u_IsAbbr _ hs _).mono ?_
      rintro e w' ⟨rfl, rfl⟩
      go_wp2_with fail
      go_ret
      exact ⟨ret_bool HX.out.symm, Below.refl _ _⟩
    | true =>
      have HX := Lib.hid (show wordB s.data.toList = !decide (0 ≤ Lib.indexAny s.data.toList DIGS) by rw [← hW, hA, decide_eq_true h3]; simp)
      have HA := Lib.hid hA
      clear hW
      go_enter Try.func62, Try.ntmps62
      go_wp2_with fail
      refine (u_IsAbbr _ hs _).mono ?_
      rintro e w' ⟨rfl, rfl⟩
      go_wp2_with fail
      refine (i_any _ HA.out _).mono ?_
      rintro e w1 ⟨rfl, hb⟩
      go_wp2_with fail
      go_ret
      exact ⟨ret_bool (by rw [HX.out]), hb⟩
  · have HX := Lib.hid (show wordB s.data.toList = false by rw [← hW, decide_eq_false h3]; rfl)
    clear hW
    go_enter Try.func62, Try.ntmps62
    go_wp2_with fail
    go_ret
    exact ⟨ret_bool HX.out.symm, Below.refl _ _⟩
set_option maxHeartbeats 2000000 in
theorem i_rite (m we d a : Int) (w : World) :
    Calls Try.prog 64 #[.agg #[.int .i64 m, .int .i64 we, .int .i64 d, .int .i64 a]] w fun e w' => e = .returned (.int .i64 (riE m we d a)) ∧ Below w.heap.size w w' := by
  go_enter Try.func64, Try.ntmps64
  go_wp2_with (first | (go_at_call 63; refine (i_within _ _ _ _).mono ?_; rintro e w' ⟨rfl, rfl⟩))
  all_goals
    go_ret
    refine ⟨ret_int ?_, (by repeat (first | exact Below.refl _ _ | assumption | apply Below.drew | apply below_drewN | (refine Below.alloc ?_ (by simp; try omega) _) | (refine Below.setCell ?_ (by simp; try omega) _)))⟩
    first
      | (refine (riE_ok (riOk_iff.2 ?_)).symm; first | (simp_all; done) | (simp_all; omega))
      | (refine (riE_no (riOk_no.2 ?_)).symm; first | (simp_all; done) | (simp_all; intros; omega))
/-- the box of the argument and the list of both rites, under calls -/
def RK (w wr : World) (cs c8 : Array Value) (g : Nat) : Prop := (∀ i, wr.cell? ⟨w.heap.size, i, none⟩ = cs[i]?) ∧ w.heap.size < wr.heap.size ∧ Below w.heap.size w wr ∧ (∀ i, wr.cell? ⟨g, i, none⟩ = c8[i]?) ∧ g < wr.heap.size
theorem RK.step {w W W2 : World} {cs c8 : Array Value} {g : Nat} (h : RK w W cs c8 g) (h2 : Below W.heap.size W W2) : RK w W2 cs c8 g :=
  ⟨fun i => (h2.cell h.2.1).trans (h.1 i), Nat.lt_of_lt_of_le h.2.1 h2.size, h.2.2.1.trans (h2.mono (Nat.le_of_lt h.2.1)), fun i => (h2.cell h.2.2.2.2).trans (h.2.2.2.1 i), Nat.lt_of_lt_of_le h.2.2.2.2 h2.size⟩
theorem RK.alloc {w W : World} {cs c8 : Array Value} {g : Nat} (h : RK w W cs c8 g) (o : Obj) : RK w (W.alloc o) cs c8 g := h.step ((Below.refl _ _).alloc (Nat.le_refl _) _)
theorem RK.drewN {w W : World} {cs c8 : Array Value} {g : Nat} (h : RK w W cs c8 g) (n : Nat) : RK w (W.drewN n) cs c8 g := h.step (below_drewN (Below.refl _ _) _)
theorem RK.start {w w1 : World} {cs c8 : Array Value} {t : TypeId} (hcs : ∀ i, w1.cell? ⟨w.heap.size, i, none⟩ = cs[i]?) (hz : w.heap.size < w1.heap.size) (hb : Below w.heap.size w w1) : RK w (w1.alloc (.cells c8 t)) cs c8 w1.heap.size := by
  obtain ⟨a, b, c⟩ := keepc hcs hz hb ((Below.refl w1.heap.size w1).alloc (Nat.le_refl _) (.cells c8 t))
  exact ⟨a, b, c, fun i => cell_new _ _ _ _ _ rfl, by rw [size_alloc]; omega⟩
end Go.Proofs.Ytgnodiegippkeaa
