/- Normal tables as books, in plain Lean. -/
import Derived.Test.YtgnodiegippkeaaDoorNmP
import Derived.Test.YtgnodiegippkeaaDoorEqB
import Derived.Test.YtgnodiegippkeaaDoorCivP
namespace Go.Proofs.YtgnodiegippkeaaDoor
open Go.RowKit
set_option linter.unusedVariables false
def eraTy (x : Ty) : ErT := if x.2.1 = true then ⟨x.1 - 3600, ⟨#[]⟩, 3600, x.2.2, 0⟩ else ⟨x.1, ⟨#[]⟩, 0, x.2.2, 0⟩
theorem eraTy_f (x : Ty) : (eraTy x).rules = ⟨#[]⟩ ∧ (eraTy x).format = x.2.2 := by unfold eraTy; split <;> exact ⟨rfl, rfl⟩
def eraOk (x : Ty) : Bool := decide (-64800 ≤ (eraTy x).off ∧ (eraTy x).off ≤ 64800)
def bbIx (s : NSt) (j : Nat) : Nat := if j = 0 then 0 else (s.cs.getD (j - 1) (0, 0)).2.toNat
def bbTy (s : NSt) (j : Nat) : Ty := s.ts.getD (bbIx s j) tyZero
def bbEra (s : NSt) (j : Nat) : ErT := ⟨(eraTy (bbTy s j)).off, (eraTy (bbTy s j)).rules, (eraTy (bbTy s j)).save, (eraTy (bbTy s j)).format, if j < s.cs.length then (s.cs.getD j (0, 0)).1 else 0⟩
def bbEras (s : NSt) (n : Nat) : List ErT := (List.range n).map (bbEra s)
def bbOk (s : NSt) : Bool := s.cs.all (fun c => dateOk (c.1 / 86400)) && (List.range (s.cs.length + 1)).all (fun j => eraOk (bbTy s j))
theorem bbEras_succ (s : NSt) (n : Nat) : bbEras s (n + 1) = bbEras s n ++ [bbEra s n] := by simp [bbEras, List.range_succ]
theorem bbEras_len (s : NSt) (n : Nat) : (bbEras s n).length = n := by simp [bbEras]
theorem bbOk_time {s : NSt} {k : Nat} (hk : k < s.cs.length) (h : dateOk (s.cs[k].1 / 86400) = false) : bbOk s = false := by
  unfold bbOk
  rw [Bool.and_eq_false_iff]
  refine Or.inl (List.all_eq_false.2 ⟨s.cs[k], List.getElem_mem hk, by rw [h]; decide⟩)
theorem bbOk_era {s : NSt} {j : Nat} (hj : j ≤ s.cs.length) (h : eraOk (bbTy s j) = false) : bbOk s = false := by
  unfold bbOk
  rw [Bool.and_eq_false_iff]
  refine Or.inr (List.all_eq_false.2 ⟨j, List.mem_range.2 (by omega), by rw [h]; decide⟩)
theorem bbOk_all {s : NSt} (h1 : ∀ j (hj : j < s.cs.length), dateOk (s.cs[j].1 / 86400) = true) (h2 : ∀ j, j ≤ s.cs.length → eraOk (bbTy s j) = true) : bbOk s = true := by
  unfold bbOk
  rw [Bool.and_eq_true]
  refine ⟨List.all_eq_true.2 (fun c hc => ?_), List.all_eq_true.2 (fun j hj => h2 j (by have := List.mem_range.1 hj; omega))⟩
  obtain ⟨j, hj, rfl⟩ := List.mem_iff_getElem.1 hc
  exact h1 j hj
/-- of a table that is built: numbers of types are such, times are those handed in, there is a type -/
structure NsOk (s : NSt) : Prop where
  pos : 0 < s.ts.length
  range : ∀ c ∈ s.cs, 0 ≤ c.2 ∧ c.2 < s.ts.length
theorem addTy_sub (l : List Ty) (x : Ty) : l.length ≤ (addTy l x).length ∧ numTy l x < (addTy l x).length := by
  by_cases h : x ∈ l
  · rw [addTy_old h]; exact ⟨Nat.le_refl _, numTy_lt.2 h⟩
  · rw [addTy_new h, numTy_none h]; simp
theorem nStep_ok {s : NSt} (h : NsOk s) (a : Int) (x : Ty) : NsOk (nStep s a x) := by
  by_cases e : x = s.last
  · rw [nStep_same e]; exact h
  · rw [nStep_other e]
    obtain ⟨h1, h2⟩ := addTy_sub s.ts x
    refine ⟨by have := h.pos; simp only; omega, fun c hc => ?_⟩
    rcases List.mem_append.1 hc with hc | hc
    · have := h.range c hc
      simp only; omega
    · simp only [List.mem_singleton] at hc
      subst hc
      simp only; omega
theorem nBuild_ok (x0 : Ty) (l : List (Int × Ty)) : NsOk (nBuild x0 l) := by
  suffices ∀ (l : List (Int × Ty)) (s : NSt), NsOk s → NsOk (l.foldl (fun s c => nStep s c.1 c.2) s) from this l (nBegin x0) ⟨by simp [nBegin], by simp [nBegin]⟩
  intro l
  induction l with
  | nil => intro s h; exact h
  | cons c r ih => intro s h; exact ih _ (nStep_ok h _ _)
theorem nBuild_times (p : Int → Prop) (x0 : Ty) (l : List (Int × Ty)) (h : ∀ c ∈ l, p c.1) : ∀ c ∈ (nBuild x0 l).cs, p c.1 := by
  suffices ∀ (l : List (Int × Ty)) (s : NSt), (∀ c ∈ s.cs, p c.1) → (∀ c ∈ l, p c.1) → ∀ c ∈ (l.foldl (fun s c => nStep s c.1 c.2) s).cs, p c.1 from this l (nBegin x0) (by simp [nBegin]) h
  intro l
  induction l with
  | nil => intro s hs _; exact hs
  | cons c r ih =>
    intro s hs hc
    refine ih (nStep s c.1 c.2) (fun d hd => ?_) (fun d hd => hc d (by simp [hd]))
    by_cases e : c.2 = s.last
    · rw [nStep_same e] at hd; exact hs d hd
    · rw [nStep_other e] at hd
      rcases List.mem_append.1 hd with hd | hd
      · exact hs d hd
      · simp only [List.mem_singleton] at hd
        subst hd; exact hc c (by simp)
theorem bbIx_lt {s : NSt} (h : NsOk s) {j : Nat} (hj : j ≤ s.cs.length) : bbIx s j < s.ts.length := by
  unfold bbIx
  split
  · exact h.pos
  · rename_i h0
    have hlt : j - 1 < s.cs.length := by omega
    have e : s.cs.getD (j - 1) (0, 0) = s.cs[j - 1] := by simp [List.getD, hlt]
    have := h.range _ (List.getElem_mem hlt)
    rw [e]; omega
theorem bbTy_get {s : NSt} (h : NsOk s) {j : Nat} (hj : j ≤ s.cs.length) : bbTy s j = s.ts[bbIx s j]'(bbIx_lt h hj) := by
  simp [bbTy, List.getD, bbIx_lt h hj]
theorem bbIx_succ {s : NSt} {j : Nat} (hj : j < s.cs.length) (h : NsOk s) : (bbIx s (j + 1) : Int) = s.cs[j].2 := by
  have := h.range _ (List.getElem_mem hj)
  simp [bbIx, List.getD, hj]; omega
/-- what Book leaves -/
def BkL (W : World) (nm : ByteArray) (ers : List ErT) (g cz : Nat) (E : Option Addr) (ce : Nat) : Prop :=
  g < W.heap.size ∧ W.cell? ⟨g, 0, none⟩ = some (.string nm) ∧ W.cell? ⟨g, 1, none⟩ = some (.slice E ers.length ce) ∧ SlAt W W.heap.size 5 E (ers.map erC) ∧ ers.length ≤ ce ∧ ce ≤ maxLen ∧ 1 ≤ cz ∧ cz ≤ maxLen
theorem BkL.step {W W2 : World} {nm : ByteArray} {ers : List ErT} {g cz : Nat} {E : Option Addr} {ce : Nat} (h : BkL W nm ers g cz E ce) (hb : Below W.heap.size W W2) : BkL W2 nm ers g cz E ce := by
  obtain ⟨a1, a2, a3, a4, a5⟩ := h
  have := hb.size
  exact ⟨by omega, (hb.cell a1).trans a2, (hb.cell a1).trans a3, (a4.below hb).more this, a5⟩
def BbBad (E : Int) (w : World) (e : Ending) (w' : World) : Prop := e = .returned (.tuple #[.agg #[.slice none 0 0, .slice none 0 0, .slice none 0 0], .int .i64 E]) ∧ Below w.heap.size w w'
def BbGood (nm : ByteArray) (ers : List ErT) (w : World) (e : Ending) (w' : World) : Prop :=
  ∃ g cz E ce, e = .returned (.tuple #[.agg #[.slice none 0 0, .slice (some ⟨g, 0, none⟩) 1 cz, .slice none 0 0], .int .i64 0]) ∧ Below w.heap.size w w' ∧ BkL w' nm ers g cz E ce
def BbPost (s : NSt) (nm : ByteArray) (w : World) (e : Ending) (w' : World) : Prop :=
  (bbOk s = true ∧ BbGood nm (bbEras s (s.cs.length + 1)) w e w') ∨ (bbOk s = false ∧ BbBad 1 w e w')
end Go.Proofs.YtgnodiegippkeaaDoor
