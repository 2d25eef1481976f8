/- Where two tables say two types, in plain Lean. Nothing of the program here. -/
import Derived.Test.YtbnajjfkkgmflaaSrtP
namespace Go.Proofs.Ytbnajjfkkgmflaa
set_option linter.unusedVariables false
abbrev Sp := Int × Int
/-- a span more, or the last one longer -/
def spAdd (out : List Sp) (a b : Int) : List Sp :=
  match out.getLast? with
  | some p => if p.2 = a then out.dropLast ++ [(p.1, b)] else out ++ [(a, b)]
  | none => out ++ [(a, b)]
def spLong (out : List Sp) (b : Int) : List Sp :=
  match out.getLast? with
  | some p => out.dropLast ++ [(p.1, b)]
  | none => out
/-- the program's way: times that rise, some of them twice -/
def runP (d : Int → Bool) : List Int → List Sp → List Sp
  | a :: b :: l, out => runP d (b :: l) (if a = b ∨ d a = false then out else spAdd out a b)
  | _, out => out
/-- the reference's way -/
def runR (d : Int → Bool) : List Int → List Sp → Bool → List Sp
  | a :: b :: l, out, was => runR d (b :: l) (if d a = true then (if was = true then spLong out b else out ++ [(a, b)]) else out) (d a)
  | _, out, _ => out
/-- no time twice, one behind the other -/
def ddI : List Int → List Int
  | a :: b :: l => if a = b then ddI (b :: l) else a :: ddI (b :: l)
  | l => l
theorem ddI_head (b : Int) : ∀ l : List Int, ∃ r, ddI (b :: l) = b :: r
  | [] => ⟨[], rfl⟩
  | c :: l => by
    by_cases h : b = c
    · subst h
      obtain ⟨r, hr⟩ := ddI_head b l
      exact ⟨r, by rw [ddI, if_pos rfl, hr]⟩
    · exact ⟨ddI (c :: l), by rw [ddI, if_neg h]⟩
theorem ddI_mem : ∀ (l : List Int) (x : Int), x ∈ ddI l ↔ x ∈ l
  | [], x => Iff.rfl
  | [a], x => Iff.rfl
  | a :: b :: l, x => by
    have ih := ddI_mem (b :: l) x
    by_cases h : a = b
    · subst h; rw [ddI, if_pos rfl, ih]; simp
    · rw [ddI, if_neg h, List.mem_cons, ih]; simp
theorem ddI_rise : ∀ (l : List Int), l.Pairwise (· ≤ ·) → (ddI l).Pairwise (· < ·)
  | [], _ => List.Pairwise.nil
  | [a], _ => List.pairwise_singleton _ _
  | a :: b :: l, h => by
    obtain ⟨h1, h2⟩ := List.pairwise_cons.1 h
    have ih := ddI_rise (b :: l) h2
    by_cases e : a = b
    · subst e; rw [ddI, if_pos rfl]; exact ih
    · rw [ddI, if_neg e, List.pairwise_cons]
      refine ⟨fun x hx => ?_, ih⟩
      have hb : a ≤ b := h1 b (by simp)
      rcases List.mem_cons.1 ((ddI_mem (b :: l) x).1 hx) with rfl | hx
      · omega
      · have := (List.pairwise_cons.1 h2).1 x hx; omega
theorem runP_ddI (d : Int → Bool) : ∀ (l : List Int) (out : List Sp), runP d (ddI l) out = runP d l out
  | [], _ => rfl
  | [a], _ => rfl
  | a :: b :: l, out => by
    by_cases e : a = b
    · subst e
      rw [ddI, if_pos rfl, runP_ddI d (a :: l) out]
      conv => rhs; rw [runP, if_pos (Or.inl rfl)]
    · obtain ⟨r, hr⟩ := ddI_head b l
      have ih := runP_ddI d (b :: l) (if a = b ∨ d a = false then out else spAdd out a b)
      rw [ddI, if_neg e, hr, runP, ← hr, ih]
      conv => rhs; rw [runP]
/-- what the reference keeps: was there a span that ends here? -/
def wasOk (out : List Sp) (a : Int) (was : Bool) : Prop := match out.getLast? with
  | some p => (was = true → p.2 = a) ∧ (was = false → p.2 < a)
  | none => was = false
theorem run_same (d : Int → Bool) : ∀ (l : List Int) (out : List Sp) (was : Bool), l.Pairwise (· < ·) → (∀ a r, l = a :: r → wasOk out a was) → runP d l out = runR d l out was
  | [], _, _, _, _ => rfl
  | [a], _, _, _, _ => rfl
  | a :: b :: l, out, was, h, hw => by
    obtain ⟨h1, h2⟩ := List.pairwise_cons.1 h
    have hab : a < b := h1 b (by simp)
    have hw1 := hw a _ rfl
    rw [runP, runR]
    have key : (if a = b ∨ d a = false then out else spAdd out a b) = (if d a = true then (if was = true then spLong out b else out ++ [(a, b)]) else out) ∧ wasOk (if d a = true then (if was = true then spLong out b else out ++ [(a, b)]) else out) b (d a) := by
      cases hd : d a with
      | false =>
        rw [if_pos (Or.inr rfl), if_neg Bool.false_ne_true]
        refine ⟨rfl, ?_⟩
        unfold wasOk at hw1 ⊢
        cases hg : out.getLast? with
        | none => rfl
        | some p =>
          rw [hg] at hw1
          refine ⟨fun e => (by cases e), fun _ => ?_⟩
          cases was with
          | true => have := hw1.1 rfl; omega
          | false => have := hw1.2 rfl; omega
      | true =>
        rw [if_neg (fun e => e.elim (fun e => by omega) (fun e => Bool.noConfusion e)), if_pos rfl]
        unfold wasOk at hw1
        cases hg : out.getLast? with
        | none =>
          rw [hg] at hw1
          replace hw1 : was = false := hw1
          rw [hw1, if_neg Bool.false_ne_true]
          refine ⟨by rw [spAdd, hg], ?_⟩
          unfold wasOk; rw [List.getLast?_concat]
          exact ⟨fun _ => rfl, fun e => by cases e⟩
        | some p =>
          rw [hg] at hw1
          cases was with
          | true =>
            have e := hw1.1 rfl
            rw [if_pos rfl]
            refine ⟨by rw [spAdd, hg, spLong, hg]; exact if_pos e, ?_⟩
            unfold wasOk spLong; rw [hg]; dsimp only; rw [List.getLast?_concat]
            exact ⟨fun _ => rfl, fun e => by cases e⟩
          | false =>
            have e := hw1.2 rfl
            rw [if_neg Bool.false_ne_true]
            refine ⟨by rw [spAdd, hg]; exact if_neg (by omega), ?_⟩
            unfold wasOk; rw [List.getLast?_concat]
            exact ⟨fun _ => rfl, fun e => by cases e⟩
    rw [key.1]
    exact run_same d (b :: l) _ _ h2 (fun a' r' e => by cases e; exact key.2)
/-- the two ways meet -/
theorem runs_meet (d : Int → Bool) {P U : List Int} (hP : P.Pairwise (· ≤ ·)) (hU : U.Pairwise (· < ·)) (hm : ∀ x, x ∈ P ↔ x ∈ U) : runP d P [] = runR d U [] false := by
  have e : ddI P = U := rise_eq (ddI_rise P hP) hU (fun x => (ddI_mem P x).trans (hm x))
  rw [← runP_ddI, e]
  exact run_same d U [] false hU (fun a r _ => rfl)
end Go.Proofs.Ytbnajjfkkgmflaa
