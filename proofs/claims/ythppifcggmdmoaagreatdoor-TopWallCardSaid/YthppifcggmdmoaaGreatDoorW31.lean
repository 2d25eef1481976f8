/- Part 31 of the proof of TopWall: no condition; what its declarations say stands at each. -/
import Derived.Test.YthppifcggmdmoaaGreatDoorW02
import Derived.Lib.ConvBytes
import Derived.Test.YthppifcggmdmoaaGreatDoorW03
import Derived.Test.YthppifcggmdmoaaGreatDoorW18
import Derived.Test.YthppifcggmdmoaaGreatDoorW14
import Derived.Test.YthppifcggmdmoaaGreatDoorW13
import Derived.Test.YthppifcggmdmoaaGreatDoorW20
import Derived.Deep.AppendLies
import Derived.Test.YthppifcggmdmoaaGreatDoorW29
namespace Go.Proofs.YthppifcggmdmoaaGreatDoor
open Go.RowKit
set_option linter.unusedVariables false

def isTimeB (t : Int) : Bool := decide (-11676096000 ≤ t ∧ t < 13569465600)
end Go.Proofs.YthppifcggmdmoaaGreatDoor

namespace Go.Proofs.YthppifcggmdmoaaGreatDoor
open Go.RowKit
set_option linter.unusedVariables false
attribute [local go_sem ↓] Go.wp_at_zero Go.wp_at_succ

def fil (rs : List RuT) (nm : ByteArray) : List RuT := rs.filter fun r => sEq r.name nm
theorem fil_succ {rs : List RuT} {nm : ByteArray} {k : Nat} (h : k < rs.length) : fil (rs.take (k + 1)) nm = fil (rs.take k) nm ++ if sEq rs[k].name nm = true then [rs[k]] else [] := by
 unfold fil; rw [List.take_succ_eq_append_getElem h, List.filter_append]
 congr 1
 cases hq : sEq rs[k].name nm <;> simp [hq]
end Go.Proofs.YthppifcggmdmoaaGreatDoor
namespace Go.Proofs.YthppifcggmdmoaaGreatDoor
set_option linter.unusedVariables false
end Go.Proofs.YthppifcggmdmoaaGreatDoor
namespace Go.Proofs.YthppifcggmdmoaaGreatDoor
open Go.RowKit
set_option linter.unusedVariables false
attribute [local go_sem ↓] Go.wp_at_zero Go.wp_at_succ
end Go.Proofs.YthppifcggmdmoaaGreatDoor

namespace Go.Proofs.YthppifcggmdmoaaGreatDoor
open Go.RowKit
set_option linter.unusedVariables false
abbrev TuT := Int × Int × ByteArray
def tuCells (t : TuT) : List Value := [.int .i64 t.1, .int .i64 t.2.1, .string t.2.2]
theorem tu_at {w : World} {B : Nat} {A : Option Addr} {ts : List TuT} (h : SlAt w B 3 A (ts.map tuCells)) {k : Nat} (hk : k < ts.length) :
  ∃ b o, A = some ⟨b, o, none⟩ ∧ b < B ∧ w.cell? ⟨b, o + k * 3, none⟩ = some (.int .i64 ts[k].1) ∧ w.cell? ⟨b, o + k * 3 + 1, none⟩ = some (.int .i64 ts[k].2.1) ∧ w.cell? ⟨b, o + k * 3 + 2, none⟩ = some (.string ts[k].2.2) := by
 obtain ⟨b, o, h1, h2, h3⟩ := h (by simp; omega)
 have e : (ts.map tuCells).getD k [] = tuCells ts[k] := by simp [List.getD, hk]
 have h4 := h3 k (by simpa using hk)
 rw [e] at h4
 exact ⟨b, o, h1, h2, h4 0 (by omega), h4 1 (by omega), h4 2 (by omega)⟩
def ruT (r : RuT) (y : Int) : Int := 86400 * dofV y r.m r.k r.wd r.n + r.a
def ruN (r : RuT) : Nat := (r.t - r.f + 1).toNat
def nomR (r : RuT) : List (Int × RuT) := (List.range (ruN r)).map fun (j : Nat) => (ruT r (r.f + (j : Int)), r)
def noms (G : List RuT) : List (Int × RuT) := (G.map nomR).flatten
def yrsN (G : List RuT) : Nat := (G.map ruN).sum
theorem nomR_len (r : RuT) : (nomR r).length = ruN r := by simp [nomR]
theorem noms_snoc (G : List RuT) (r : RuT) : noms (G ++ [r]) = noms G ++ nomR r := by simp [noms]
theorem yrsN_snoc (G : List RuT) (r : RuT) : yrsN (G ++ [r]) = yrsN G + ruN r := by simp [yrsN]
theorem noms_len (G : List RuT) : (noms G).length = yrsN G := by
 induction G with
 | nil => rfl
 | cons r G ih => simp [noms, yrsN, nomR_len] at ih ⊢; omega
def RuB (r : RuT) : Prop := (1900 ≤ r.f ∧ r.f ≤ r.t ∧ r.t ≤ 2100) ∧ (-604800 ≤ r.a ∧ r.a ≤ 604800) ∧ (0 ≤ r.b ∧ r.b ≤ 2) ∧ (0 ≤ r.sv ∧ r.sv ≤ 10800)
theorem RuB.of {r : RuT} (h : ruEr r = 0) : RuB r := by
 unfold ruEr ruleE at h
 split at h
 ·split at h
  ·rename_i h2
   have := ruleN_iff.1 h2
   exact ⟨⟨this.1.1, this.1.2.2.1, this.1.2.2.2.1⟩, ⟨this.2.2.2.1, this.2.2.2.2.1⟩, ⟨this.2.2.2.2.2.1, this.2.2.2.2.2.2.1⟩, this.2.2.2.2.2.2.2⟩
  ·cases h
 ·cases h
theorem RuB.n {r : RuT} (h : RuB r) : (ruN r : Int) = r.t - r.f + 1 ∧ 1 ≤ ruN r ∧ ruN r ≤ 201 := by
 unfold ruN; obtain ⟨⟨_, _, _⟩, _⟩ := h; omega
theorem dofV_bd (y m k wd n : Int) : -135140 ≤ dofV y m k wd n ∧ dofV y m k wd n ≤ 157053 := by
 unfold dofV
 split
 ·rename_i h
  unfold dofE at h
  split at h
  ·split at h
   ·split at h
    ·cases h
    ·split at h
     ·rename_i h4; exact dateOk_iff.1 h4
     ·cases h
   ·cases h
  ·cases h
 ·omega
theorem ruT_bd {r : RuT} (h : RuB r) (y : Int) : -20000000000 ≤ ruT r y ∧ ruT r y ≤ 20000000000 := by
 have := dofV_bd y r.m r.k r.wd r.n
 unfold ruT; obtain ⟨_, _, _⟩ := h; omega
def prevS (S : List (Int × RuT)) (i : Nat) : Int := if i = 0 then 0 else (S.getD (i - 1) default).2.sv
def byOff (off sv b : Int) : Int := if b = 0 then off + sv else if b = 1 then off else 0
def tuV (off : Int) (S : List (Int × RuT)) (i : Nat) : TuT :=
 ((S.getD i default).1 - byOff off (prevS S i) (S.getD i default).2.b, (S.getD i default).2.sv, (S.getD i default).2.letter)
def tuL (off : Int) (S : List (Int × RuT)) : List TuT := (List.range S.length).map (tuV off S)
def tuBad (off : Int) (S : List (Int × RuT)) (i : Nat) : Bool := decide (0 < i ∧ (tuV off S i).1 ≤ (tuV off S (i - 1)).1)
def tuUp (off : Int) (S : List (Int × RuT)) : Bool := (List.range S.length).all fun i => !tuBad off S i
def turnS (rs : List RuT) (nm : ByteArray) : List (Int × RuT) := ssort Prod.fst (noms (fil rs nm))
def turnE (rs : List RuT) (nm : ByteArray) (off : Int) : Int :=
 if fil rs nm = [] then 6 else if 1500 < yrsN (fil rs nm) then 2 else if tuUp off (turnS rs nm) then 0 else 5
def turnL (rs : List RuT) (nm : ByteArray) (off : Int) : List TuT := if turnE rs nm off = 0 then tuL off (turnS rs nm) else []
theorem turn_none {rs : List RuT} {nm : ByteArray} {off : Int} (h : fil rs nm = []) : turnE rs nm off = 6 ∧ turnL rs nm off = [] := by simp [turnL, turnE, h]
theorem turn_large {rs : List RuT} {nm : ByteArray} {off : Int} (h : fil rs nm ≠ []) (h2 : 1500 < yrsN (fil rs nm)) : turnE rs nm off = 2 ∧ turnL rs nm off = [] := by simp [turnL, turnE, h, h2]
theorem turn_bad {rs : List RuT} {nm : ByteArray} {off : Int} (h : fil rs nm ≠ []) (h2 : ¬ 1500 < yrsN (fil rs nm)) {i : Nat} (hi : i < (turnS rs nm).length) (hb : tuBad off (turnS rs nm) i = true) : turnE rs nm off = 5 ∧ turnL rs nm off = [] := by
 have : tuUp off (turnS rs nm) = false := by
  rw [tuUp, List.all_eq_false]; exact ⟨i, List.mem_range.2 hi, by simp [hb]⟩
 simp [turnL, turnE, h, h2, this]
theorem turn_ok {rs : List RuT} {nm : ByteArray} {off : Int} (h : fil rs nm ≠ []) (h2 : ¬ 1500 < yrsN (fil rs nm)) (hb : ∀ i, i < (turnS rs nm).length → tuBad off (turnS rs nm) i = false) : turnE rs nm off = 0 ∧ turnL rs nm off = tuL off (turnS rs nm) := by
 have : tuUp off (turnS rs nm) = true := by
  rw [tuUp, List.all_eq_true]; intro i hi; rw [hb i (List.mem_range.1 hi)]; rfl
 simp [turnL, turnE, h, h2, this]
theorem tuL_len (off : Int) (S : List (Int × RuT)) : (tuL off S).length = S.length := by simp [tuL]
theorem tuL_succ {off : Int} {S : List (Int × RuT)} {i : Nat} : (List.range (i + 1)).map (tuV off S) = (List.range i).map (tuV off S) ++ [tuV off S i] := by rw [List.range_succ, List.map_append]; rfl
theorem smerge_map {α β : Type} (f : α → β) (key : β → Int) : ∀ (n : Nat) (A B : List α), A.length + B.length ≤ n → smerge key (A.map f) (B.map f) = (smerge (fun x => key (f x)) A B).map f
 | _, [], B, _ => by simp only [List.map_nil, smerge_nil_left]
 | _, a :: A, [], _ => by simp only [List.map_nil, smerge_nil_right]
 | 0, a :: A, b :: B, h => by simp at h
 | n + 1, a :: A, b :: B, h => by
  by_cases hb : key (f b) < key (f a)
  ·have ih := smerge_map f key n (a :: A) B (by simp at h ⊢; omega)
   rw [smerge_lt (fun x => key (f x)) hb]
   show smerge key (f a :: A.map f) (f b :: B.map f) = f b :: (smerge _ (a :: A) B).map f
   rw [← ih, smerge_lt key hb]; rfl
  ·have ih := smerge_map f key n A (b :: B) (by simp at h ⊢; omega)
   rw [smerge_ge (fun x => key (f x)) hb]
   show smerge key (f a :: A.map f) (f b :: B.map f) = f a :: (smerge _ A (b :: B)).map f
   rw [← ih, smerge_ge key hb]; rfl
theorem ssort_map {α β : Type} (f : α → β) (key : β → Int) : ∀ (n : Nat) (l : List α), l.length = n → ssort key (l.map f) = (ssort (fun x => key (f x)) l).map f
 | 0, l, h => by
  have : l = [] := List.length_eq_zero_iff.1 h
  subst this; rfl
 | n + 1, l, h => by
  have hne : l ≠ [] := by intro e; rw [e] at h; simp at h
  obtain ⟨l', y, rfl⟩ : ∃ Y' y, l = Y' ++ [y] := ⟨l.dropLast, l.getLast hne, (List.dropLast_concat_getLast hne).symm⟩
  have ih := ssort_map f key n l' (by simp at h; exact h)
  rw [List.map_append, List.map_singleton, ssort_snoc, ssort_snoc, ih]
  have := smerge_map f key _ (ssort (fun x => key (f x)) l') [y] (Nat.le_refl _)
  rw [List.map_singleton] at this
  exact this
theorem ssort_mem {α : Type} (key : α → Int) : ∀ (n : Nat) (l : List α), l.length = n → ∀ x, x ∈ ssort key l ↔ x ∈ l
 | 0, l, h, x => by
  have : l = [] := List.length_eq_zero_iff.1 h
  subst this; exact Iff.rfl
 | n + 1, l, h, x => by
  have hne : l ≠ [] := by intro e; rw [e] at h; simp at h
  obtain ⟨l', y, rfl⟩ : ∃ Y' y, l = Y' ++ [y] := ⟨l.dropLast, l.getLast hne, (List.dropLast_concat_getLast hne).symm⟩
  rw [ssort_snoc, smerge_mem key _ _ _ (Nat.le_refl _) x, ssort_mem key n l' (by simp at h; exact h) x, List.mem_append]
theorem noms_mem {G : List RuT} {z : Int × RuT} (h : z ∈ noms G) : z.2 ∈ G ∧ ∃ y, z.1 = ruT z.2 y := by
 obtain ⟨l, hl, hz⟩ := List.mem_flatten.1 h
 obtain ⟨r, hr, rfl⟩ := List.mem_map.1 hl
 obtain ⟨j, _, rfl⟩ := List.mem_map.1 hz
 exact ⟨hr, _, rfl⟩
end Go.Proofs.YthppifcggmdmoaaGreatDoor

