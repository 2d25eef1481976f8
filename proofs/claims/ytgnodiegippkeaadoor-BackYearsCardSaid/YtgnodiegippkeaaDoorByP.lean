/- Turns as rules of one year each, in plain Lean; a list of turns in memory. -/
import Derived.Test.YtgnodiegippkeaaDoorEqS
import Derived.Test.YtgnodiegippkeaaDoorCivP
import Derived.Test.YtgnodiegippkeaaDoorStrP
namespace Go.Proofs.YtgnodiegippkeaaDoor
open Go.RowKit
set_option linter.unusedVariables false
abbrev TuT := Int × Int × ByteArray
def tuCells (t : TuT) : List Value := [.int .i64 t.1, .int .i64 t.2.1, .string t.2.2]
theorem tu_at {w : World} {B : Nat} {A : Option Addr} {ts : List TuT} (h : SlAt w B 3 A (ts.map tuCells)) {k : Nat} (hk : k < ts.length) :
    ∃ b o, A = some ⟨b, o, none⟩ ∧ b < B ∧ w.cell? ⟨b, o + k * 3, none⟩ = some (.int .i64 ts[k].1) ∧ w.cell? ⟨b, o + k * 3 + 1, none⟩ = some (.int .i64 ts[k].2.1) ∧ w.cell? ⟨b, o + k * 3 + 2, none⟩ = some (.string ts[k].2.2) := by
  obtain ⟨b, o, h1, h2, h3⟩ := h (by simp; omega)
  have e : (ts.map tuCells).getD k [] = tuCells ts[k] := by simp [List.getD, hk]
  have h4 := h3 k (by simpa using hk)
  rw [e] at h4
  exact ⟨b, o, h1, h2, h4 0 (by omega), h4 1 (by omega), h4 2 (by omega)⟩
/-- the first error of a list of errors -/
def firstE : List Int → Int
  | [] => 0
  | e :: r => if e = 0 then firstE r else e
theorem firstE_all {l : List Int} (h : ∀ e ∈ l, e = 0) : firstE l = 0 := by
  induction l with
  | nil => rfl
  | cons e r ih => rw [firstE, if_pos (h e (by simp))]; exact ih (fun x hx => h x (by simp [hx]))
theorem firstE_at : ∀ {l : List Int} {k : Nat} (hk : k < l.length), (∀ j (hj : j < l.length), j < k → l[j] = 0) → l[k] ≠ 0 → firstE l = l[k]
  | e :: r, 0, _, _, h => by rw [firstE, if_neg (show ¬ e = 0 from h)]; rfl
  | e :: r, k + 1, hk, h1, h2 => by
    have h0 : e = 0 := h1 0 (by simp) (by omega)
    rw [firstE, if_pos h0]
    exact firstE_at (l := r) (by simpa using hk) (fun j hj hjk => h1 (j + 1) (by simpa using hj) (by omega)) (by simpa using h2)
def letOk (s : ByteArray) : Bool := (s.toList == [45]) || isAbbrB s.data.toList
/-- the error of a turn behind another one -/
def byE (p : Option Int) (t : TuT) : Int :=
  if dateOk (t.1 / 86400) = false ∨ ¬ (1900 ≤ dYear (t.1 / 86400) ∧ dYear (t.1 / 86400) ≤ 2100) then 1
  else if (∃ q, p = some q ∧ t.1 ≤ q) then 5 else if ¬ (0 ≤ t.2.1 ∧ t.2.1 ≤ 10800) then 1 else if letOk t.2.2 = false then 3 else 0
def byPrev (l : List TuT) (k : Nat) : Option Int := if k = 0 then none else (l[k - 1]?).map (·.1)
def byEs (l : List TuT) : List Int := (List.range l.length).map fun k => byE (byPrev l k) (l.getD k (0, 0, ⟨#[]⟩))
def byErr (l : List TuT) : Int := if 40 < l.length then 2 else firstE (byEs l)
def YEARS : ByteArray := ⟨#[121, 101, 97, 114, 115]⟩
def byRule (t : TuT) : RuT :=
  if dMon (t.1 / 86400) = 2 ∧ dDay (t.1 / 86400) = 29 then ⟨YEARS, dYear (t.1 / 86400), dYear (t.1 / 86400), 2, 1, 0, 28, t.1 % 86400 + 86400, 2, t.2.1, t.2.2⟩
  else ⟨YEARS, dYear (t.1 / 86400), dYear (t.1 / 86400), dMon (t.1 / 86400), 1, 0, dDay (t.1 / 86400), t.1 % 86400, 2, t.2.1, t.2.2⟩
def byRs (l : List TuT) : List RuT := if byErr l = 0 then l.map byRule else []
theorem byEs_get (l : List TuT) (k : Nat) (hk : k < l.length) : (byEs l)[k]'(by simpa [byEs] using hk) = byE (byPrev l k) l[k] := by
  simp [byEs, List.getD, hk]
theorem byErr_large {l : List TuT} (h : 40 < l.length) : byErr l = 2 := by rw [byErr, if_pos h]
theorem byErr_all {l : List TuT} (h : ¬ 40 < l.length) (h2 : ∀ j (hj : j < l.length), byE (byPrev l j) l[j] = 0) : byErr l = 0 := by
  rw [byErr, if_neg h]
  refine firstE_all (fun e he => ?_)
  obtain ⟨j, hj, rfl⟩ := List.mem_iff_getElem.1 he
  have hj' : j < l.length := by simpa [byEs] using hj
  rw [byEs_get l j hj']; exact h2 j hj'
theorem byErr_at {l : List TuT} (h : ¬ 40 < l.length) {k : Nat} (hk : k < l.length) (h2 : ∀ j (hj : j < l.length), j < k → byE (byPrev l j) l[j] = 0) (h3 : byE (byPrev l k) l[k] ≠ 0) : byErr l = byE (byPrev l k) l[k] := by
  rw [byErr, if_neg h]
  have hl : (byEs l).length = l.length := by simp [byEs]
  have h4 := firstE_at (l := byEs l) (k := k) (by rw [hl]; exact hk) (fun j hj hjk => by rw [byEs_get l j (by rwa [hl] at hj)]; exact h2 j _ hjk) (by rw [byEs_get l k hk]; exact h3)
  rw [h4, byEs_get l k hk]
theorem byPrev_pos (l : List TuT) (k : Nat) (hk : k < l.length) (h0 : 0 < k) : byPrev l k = some (l[k - 1]'(by omega)).1 := by
  rw [byPrev, if_neg (by omega)]
  simp [show k - 1 < l.length by omega]
section
variable {p : Option Int} {t : TuT}
theorem byE_date (h : dateOk (t.1 / 86400) = false) : byE p t = 1 := by rw [byE, if_pos (Or.inl h)]
theorem byE_year (h : ¬ (1900 ≤ dYear (t.1 / 86400) ∧ dYear (t.1 / 86400) ≤ 2100)) : byE p t = 1 := by rw [byE, if_pos (Or.inr h)]
theorem byE_prev (h : dateOk (t.1 / 86400) = true) (h2 : 1900 ≤ dYear (t.1 / 86400) ∧ dYear (t.1 / 86400) ≤ 2100) {q : Int} (h3 : p = some q) (h4 : t.1 ≤ q) : byE p t = 5 := by
  rw [byE, if_neg (by rw [h]; simp; omega), if_pos ⟨q, h3, h4⟩]
theorem byE_save (h : dateOk (t.1 / 86400) = true) (h2 : 1900 ≤ dYear (t.1 / 86400) ∧ dYear (t.1 / 86400) ≤ 2100) (h3 : ¬ ∃ q, p = some q ∧ t.1 ≤ q) (h4 : ¬ (0 ≤ t.2.1 ∧ t.2.1 ≤ 10800)) : byE p t = 1 := by
  rw [byE, if_neg (by rw [h]; simp; omega), if_neg h3, if_pos h4]
theorem byE_letter (h : dateOk (t.1 / 86400) = true) (h2 : 1900 ≤ dYear (t.1 / 86400) ∧ dYear (t.1 / 86400) ≤ 2100) (h3 : ¬ ∃ q, p = some q ∧ t.1 ≤ q) (h4 : 0 ≤ t.2.1 ∧ t.2.1 ≤ 10800) (h5 : letOk t.2.2 = false) : byE p t = 3 := by
  rw [byE, if_neg (by rw [h]; simp; omega), if_neg h3, if_neg (by simpa using h4), if_pos h5]
theorem byE_ok (h : dateOk (t.1 / 86400) = true) (h2 : 1900 ≤ dYear (t.1 / 86400) ∧ dYear (t.1 / 86400) ≤ 2100) (h3 : ¬ ∃ q, p = some q ∧ t.1 ≤ q) (h4 : 0 ≤ t.2.1 ∧ t.2.1 ≤ 10800) (h5 : letOk t.2.2 = true) : byE p t = 0 := by
  rw [byE, if_neg (by rw [h]; simp; omega), if_neg h3, if_neg (by simpa using h4), if_neg (by rw [h5]; decide)]
theorem letOk_ways {s : ByteArray} (h : letOk s = true) : (s.toList == [45]) = true ∨ ((s.toList == [45]) = false ∧ isAbbrB s.data.toList = true) := by
  unfold letOk at h
  cases e : (s.toList == [45]) with
  | true => exact Or.inl rfl
  | false => rw [e] at h; exact Or.inr ⟨rfl, by simpa using h⟩
theorem letOk_no {s : ByteArray} (h : letOk s = false) : (s.toList == [45]) = false ∧ isAbbrB s.data.toList = false := by
  unfold letOk at h; exact Bool.or_eq_false_iff.1 h
end
theorem by_at {l : List TuT} (h : ¬ 40 < l.length) {k : Nat} (hk : k < l.length) (h2 : ∀ j (hj : j < l.length), j < k → byE (byPrev l j) l[j] = 0) {E : Int} (h3 : byE (byPrev l k) l[k] = E) (h0 : E ≠ 0) : byErr l = E := by
  rw [byErr_at h hk h2 (by rw [h3]; exact h0), h3]
/-- what Years leaves -/
def ByPost (l : List TuT) (w : World) (e : Ending) (w' : World) : Prop :=
  ∃ A cap, e = .returned (.tuple #[.slice A (byRs l).length cap, .int .i64 (byErr l)]) ∧ SlAt w' w'.heap.size 11 A ((byRs l).map ruC) ∧ (byRs l).length ≤ cap ∧ cap ≤ maxLen ∧ Below w.heap.size w w'
theorem by_bad {l : List TuT} {w w' : World} {E : Int} (h : byErr l = E) (h0 : E ≠ 0) (hb : Below w.heap.size w w') : ByPost l w (.returned (.tuple #[.slice none 0 0, .int .i64 E])) w' := by
  have e : byRs l = [] := by rw [byRs, if_neg (by rw [h]; exact h0)]
  exact ⟨none, 0, by rw [e, h]; rfl, by rw [e]; exact SlAt.none_ _ _ _ _, by rw [e]; simp, by unfold maxLen; omega, hb⟩
end Go.Proofs.YtgnodiegippkeaaDoor
