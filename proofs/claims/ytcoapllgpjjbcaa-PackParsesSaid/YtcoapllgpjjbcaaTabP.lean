/- Transition tables in plain Lean: which may be, and which type it is when. Nothing of the program here. -/
import Derived.Test.YtcoapllgpjjbcaaStrP
namespace Go.Proofs.Ytcoapllgpjjbcaa
set_option linter.unusedVariables false
/-- a type: offset, save, name -/
abbrev Ty := Int × Bool × ByteArray
/-- a change: at, type -/
abbrev Ch := Int × Int
def tyCells (t : Ty) : List Value := [.int .i64 t.1, .bool t.2.1, .string t.2.2]
def chCells (c : Ch) : List Value := [.int .i64 c.1, .int .i64 c.2]
def typesE : List Ty → Int
  | [] => 0
  | t :: r => if ¬ (-75600 ≤ t.1 ∧ t.1 ≤ 75600) then 1 else if isAbbrB t.2.2.data.toList then typesE r else 3
def changesE (last : Int) : Option Int → List Ch → Int
  | _, [] => 0
  | p, c :: r =>
    if ¬ (-1099511627776 ≤ c.1 ∧ c.1 ≤ 1099511627776 ∧ 0 ≤ c.2 ∧ c.2 ≤ last) then 1
    else if (match p with | none => false | some q => decide (c.1 ≤ q)) then 5 else changesE last (some c.1) r
def tabE (ts : List Ty) (first : Int) (cs : List Ch) : Int :=
  if ts.length > 250 ∨ cs.length > 1000 then 2 else if ts.length = 0 then 5 else
  if typesE ts = 0 then if 0 ≤ first ∧ first ≤ ts.length - 1 then changesE (ts.length - 1) none cs else 1 else typesE ts
def prevAt (cs : List Ch) (k : Nat) : Option Int := if k = 0 then none else (cs[k - 1]?).map (·.1)
theorem tabE_large {ts : List Ty} {first : Int} {cs : List Ch} (h : ts.length > 250 ∨ cs.length > 1000) : tabE ts first cs = 2 := by rw [tabE, if_pos h]
theorem tabE_form {ts : List Ty} {first : Int} {cs : List Ch} (h : ¬ (ts.length > 250 ∨ cs.length > 1000)) (h2 : ts.length = 0) : tabE ts first cs = 5 := by rw [tabE, if_neg h, if_pos h2]
theorem tabE_types {ts : List Ty} {first : Int} {cs : List Ch} (h : ¬ (ts.length > 250 ∨ cs.length > 1000)) (h2 : ¬ ts.length = 0) (h3 : typesE ts ≠ 0) : tabE ts first cs = typesE ts := by rw [tabE, if_neg h, if_neg h2, if_neg h3]
theorem tabE_first {ts : List Ty} {first : Int} {cs : List Ch} (h : ¬ (ts.length > 250 ∨ cs.length > 1000)) (h2 : ¬ ts.length = 0) (h3 : typesE ts = 0) (h4 : ¬ (0 ≤ first ∧ first ≤ ts.length - 1)) : tabE ts first cs = 1 := by rw [tabE, if_neg h, if_neg h2, if_pos h3, if_neg h4]
theorem tabE_changes {ts : List Ty} {first : Int} {cs : List Ch} (h : ¬ (ts.length > 250 ∨ cs.length > 1000)) (h2 : ¬ ts.length = 0) (h3 : typesE ts = 0) (h4 : 0 ≤ first ∧ first ≤ ts.length - 1) : tabE ts first cs = changesE (ts.length - 1) none cs := by rw [tabE, if_neg h, if_neg h2, if_pos h3, if_pos h4]
theorem typesE_drop (ts : List Ty) (k : Nat) (h : k < ts.length) : typesE (ts.drop k) = if ¬ (-75600 ≤ ts[k].1 ∧ ts[k].1 ≤ 75600) then 1 else if isAbbrB ts[k].2.2.data.toList then typesE (ts.drop (k + 1)) else 3 := by
  rw [List.drop_eq_getElem_cons h]; rfl
theorem changesE_drop (last : Int) (cs : List Ch) (k : Nat) (h : k < cs.length) (p : Option Int) : changesE last p (cs.drop k) =
    if ¬ (-1099511627776 ≤ cs[k].1 ∧ cs[k].1 ≤ 1099511627776 ∧ 0 ≤ cs[k].2 ∧ cs[k].2 ≤ last) then 1
    else if (match p with | none => false | some q => decide (cs[k].1 ≤ q)) then 5 else changesE last (some cs[k].1) (cs.drop (k + 1)) := by
  rw [List.drop_eq_getElem_cons h]; rfl
theorem prevAt_succ (cs : List Ch) (k : Nat) (h : k < cs.length) : prevAt cs (k + 1) = some cs[k].1 := by
  simp [prevAt, h]
theorem ch_bad {last : Int} {cs : List Ch} {k : Nat} (h : k < cs.length) {p : Option Int} (hb : ¬ (-1099511627776 ≤ cs[k].1 ∧ cs[k].1 ≤ 1099511627776 ∧ 0 ≤ cs[k].2 ∧ cs[k].2 ≤ last)) : changesE last p (cs.drop k) = 1 := by
  rw [changesE_drop last cs k h p, if_pos hb]
theorem ch_form {last : Int} {cs : List Ch} {k : Nat} (h : k < cs.length) (h0 : 0 < k) (hb : -1099511627776 ≤ cs[k].1 ∧ cs[k].1 ≤ 1099511627776 ∧ 0 ≤ cs[k].2 ∧ cs[k].2 ≤ last) (hf : cs[k].1 ≤ (cs[k - 1]'(by omega)).1) : changesE last (prevAt cs k) (cs.drop k) = 5 := by
  have : prevAt cs k = some (cs[k - 1]'(by omega)).1 := by
    have := prevAt_succ cs (k - 1) (by omega); rwa [show k - 1 + 1 = k by omega] at this
  rw [changesE_drop last cs k h, this, if_neg (by simpa using hb), if_pos (by simpa using hf)]
theorem ch_next {last : Int} {cs : List Ch} {k : Nat} (h : k < cs.length) (hb : -1099511627776 ≤ cs[k].1 ∧ cs[k].1 ≤ 1099511627776 ∧ 0 ≤ cs[k].2 ∧ cs[k].2 ≤ last)
    (hf : ∀ h0 : 0 < k, ¬ cs[k].1 ≤ (cs[k - 1]'(by omega)).1) : changesE last (prevAt cs k) (cs.drop k) = changesE last (prevAt cs (k + 1)) (cs.drop (k + 1)) := by
  rw [changesE_drop last cs k h, if_neg (by simpa using hb), prevAt_succ cs k h]
  by_cases h0 : k = 0
  · subst h0; rfl
  · have : prevAt cs k = some (cs[k - 1]'(by omega)).1 := by
      have := prevAt_succ cs (k - 1) (by omega); rwa [show k - 1 + 1 = k by omega] at this
    rw [this, if_neg (by simpa using hf (by omega))]
end Go.Proofs.Ytcoapllgpjjbcaa
