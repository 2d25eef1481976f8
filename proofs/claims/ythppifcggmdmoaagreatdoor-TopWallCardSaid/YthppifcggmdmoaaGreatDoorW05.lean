/- Part 5 of the proof of TopWall: no condition; what its declarations say stands at each. -/
import Derived.Test.YthppifcggmdmoaaGreatDoorW02
import Derived.Test.YthppifcggmdmoaaGreatDoorW03
namespace Go.Proofs.YthppifcggmdmoaaGreatDoor
open Go.RowKit
set_option linter.unusedVariables false
def firE (f : Nat → Int) : Nat → Int
 | 0 => 0
 | n + 1 => if firE f n = 0 then f n else firE f n
theorem firE_zero {f : Nat → Int} : ∀ {n : Nat}, (∀ j, j < n → f j = 0) → firE f n = 0
 | 0, _ => rfl
 | n + 1, h => by rw [firE, if_pos (firE_zero (fun j hj => h j (by omega)))]; exact h n (by omega)
theorem firE_at {f : Nat → Int} {k : Nat} (h : ∀ j, j < k → f j = 0) (h0 : f k ≠ 0) : ∀ {n : Nat}, k < n → firE f n = f k
 | n + 1, hk => by
  by_cases e : k = n
  ·subst e; rw [firE, if_pos (firE_zero h)]
  ·have := firE_at h h0 (n := n) (by omega)
   rw [firE, this, if_neg h0]
theorem firE_inv {f : Nat → Int} : ∀ {n : Nat}, firE f n = 0 → ∀ j, j < n → f j = 0
 | n + 1, h, j, hj => by
  rw [firE] at h
  by_cases h1 : firE f n = 0
  ·rw [if_pos h1] at h
   by_cases e : j = n
   ·rw [e]; exact h
   ·exact firE_inv h1 j (by omega)
  ·rw [if_neg h1] at h; exact absurd h h1
def sEq (a b : ByteArray) : Bool := a.toList == b.toList
theorem sEq_iff {a b : ByteArray} : sEq a b = true ↔ a = b := by
 unfold sEq
 rw [beq_iff_eq, ByteArray.toList_eq, ByteArray.toList_eq]
 exact ⟨fun h => ByteArray.ext (Array.toList_inj.1 h), fun h => by rw [h]⟩
def eMT : ByteArray := ⟨#[]⟩
def dASH : ByteArray := ⟨#[45]⟩
instance : Inhabited RuT := ⟨⟨⟨#[]⟩, 0, 0, 0, 0, 0, 0, 0, 0, 0, ⟨#[]⟩⟩⟩
instance : Inhabited ErT := ⟨⟨0, ⟨#[]⟩, 0, ⟨#[]⟩, 0⟩⟩
structure ZoT where
 (name : ByteArray) (A : Option Addr) (cap : Nat) (eras : List ErT)
instance : Inhabited ZoT := ⟨⟨⟨#[]⟩, none, 0, []⟩⟩
abbrev LkT := ByteArray × ByteArray
instance : Inhabited LkT := ⟨(⟨#[]⟩, ⟨#[]⟩)⟩
def zoC (z : ZoT) : List Value := [.string z.name, .slice z.A z.eras.length z.cap]
def lkC (x : LkT) : List Value := [.string x.1, .string x.2]
def ruEr (r : RuT) : Int := ruleE r.name r.letter r.f r.t r.m r.k r.wd r.n r.a r.b r.sv
def arE (x : ErT) (r : RuT) : Int := if sEq r.name x.rules = true then abE x.format r.sv r.letter else 0
def absE (rs : List RuT) (x : ErT) : Int :=
 if sEq x.rules eMT = true then abE x.format x.save dASH
 else if firE (fun j => arE x rs[j]!) rs.length = 0 then abE x.format 0 dASH else firE (fun j => arE x rs[j]!) rs.length
def hasR (rs : List RuT) (name : ByteArray) : Bool := rs.any fun r => sEq r.name name
def erE1 (rs : List RuT) (x : ErT) : Int :=
 if ¬ ((-64800 ≤ x.off ∧ x.off ≤ 64800) ∧ (0 ≤ x.save ∧ x.save ≤ 10800)) then 1
 else if x.save ≠ 0 ∧ sEq x.rules eMT = false then 5
 else if sEq x.rules eMT = false ∧ hasR rs x.rules = false then 6 else absE rs x
def erE2 (l : List ErT) (k : Nat) : Int :=
 if k + 1 = l.length then if l[k]!.until_ = 0 then 0 else 5
 else if ¬ (-1099511627776 ≤ l[k]!.until_ ∧ l[k]!.until_ ≤ 1099511627776) then 1
 else if stE l[k]!.until_ ≠ 0 then 1
 else if 0 < k ∧ l[k]!.until_ ≤ l[k - 1]!.until_ then 5 else 0
def erE (rs : List RuT) (l : List ErT) (k : Nat) : Int := if erE1 rs l[k]! = 0 then erE2 l k else erE1 rs l[k]!
def hasZ (zs : List ZoT) (name : ByteArray) : Bool := zs.any fun z => sEq z.name name
def hasL (ls : List LkT) (name : ByteArray) : Bool := ls.any fun x => sEq x.1 name
def zoE (rs : List RuT) (zs : List ZoT) (k : Nat) : Int :=
 if isNameB zs[k]!.name.data.toList = false then 3
 else if hasZ (zs.take k) zs[k]!.name = true then 7
 else if zs[k]!.eras.length = 0 then 5
 else if 700 < zs[k]!.eras.length then 2
 else firE (erE rs zs[k]!.eras) zs[k]!.eras.length
def lkE (zs : List ZoT) (ls : List LkT) (k : Nat) : Int :=
 if ¬ (isNameB ls[k]!.1.data.toList = true ∧ isNameB ls[k]!.2.data.toList = true) then 3
 else if hasZ zs ls[k]!.1 = true ∨ hasL (ls.take k) ls[k]!.1 = true then 7
 else if hasZ zs ls[k]!.2 = false ∧ hasL ls ls[k]!.2 = false then 6 else 0
def bookE (rs : List RuT) (zs : List ZoT) (ls : List LkT) : Int :=
 if 40 < rs.length ∨ 20 < zs.length ∨ 20 < ls.length then 2
 else if firE (fun j => ruEr rs[j]!) rs.length ≠ 0 then firE (fun j => ruEr rs[j]!) rs.length
 else if firE (zoE rs zs) zs.length ≠ 0 then firE (zoE rs zs) zs.length
 else firE (lkE zs ls) ls.length
theorem get_bang {α : Type} [Inhabited α] {l : List α} {k : Nat} (h : k < l.length) : l[k]! = l[k] := by simp [h]
theorem zo_at {w : World} {B : Nat} {A : Option Addr} {zs : List ZoT} (h : SlAt w B 2 A (zs.map zoC)) {k : Nat} (hk : k < zs.length) :
  ∃ b o, A = some ⟨b, o, none⟩ ∧ b < B ∧ w.cell? ⟨b, o + k * 2, none⟩ = some (.string zs[k].name) ∧ w.cell? ⟨b, o + k * 2 + 1, none⟩ = some (.slice zs[k].A zs[k].eras.length zs[k].cap) := by
 obtain ⟨b, o, h1, h2, h3⟩ := h (by simp; omega)
 have e : (zs.map zoC).getD k [] = zoC zs[k] := by simp [List.getD, hk]
 have h4 := h3 k (by simpa using hk)
 rw [e] at h4
 exact ⟨b, o, h1, h2, h4 0 (by omega), h4 1 (by omega)⟩
theorem lk_at {w : World} {B : Nat} {A : Option Addr} {ls : List LkT} (h : SlAt w B 2 A (ls.map lkC)) {k : Nat} (hk : k < ls.length) :
  ∃ b o, A = some ⟨b, o, none⟩ ∧ b < B ∧ w.cell? ⟨b, o + k * 2, none⟩ = some (.string ls[k].1) ∧ w.cell? ⟨b, o + k * 2 + 1, none⟩ = some (.string ls[k].2) := by
 obtain ⟨b, o, h1, h2, h3⟩ := h (by simp; omega)
 have e : (ls.map lkC).getD k [] = lkC ls[k] := by simp [List.getD, hk]
 have h4 := h3 k (by simpa using hk)
 rw [e] at h4
 exact ⟨b, o, h1, h2, h4 0 (by omega), h4 1 (by omega)⟩
def wf63 (n : Int) : Prop := -9223372036854775808 ≤ n ∧ n ≤ 9223372036854775807
def ruOk (r : RuT) : Prop := r.name.size ≤ maxLen ∧ r.letter.size ≤ maxLen ∧ wf63 r.f ∧ wf63 r.t ∧ wf63 r.m ∧ wf63 r.k ∧ wf63 r.wd ∧ wf63 r.n ∧ wf63 r.a ∧ wf63 r.b ∧ wf63 r.sv
def erOk (x : ErT) : Prop := x.rules.size ≤ maxLen ∧ x.format.size ≤ maxLen ∧ wf63 x.off ∧ wf63 x.save ∧ wf63 x.until_
def zoOk (w : World) (B : Nat) (z : ZoT) : Prop := z.name.size ≤ maxLen ∧ SlAt w B 5 z.A (z.eras.map erC) ∧ z.eras.length ≤ z.cap ∧ z.cap ≤ maxLen ∧ ∀ x ∈ z.eras, erOk x
structure BkAt (w : World) (B : Nat) (AR AZ AL : Option Addr) (cR cZ cL : Nat) (rs : List RuT) (zs : List ZoT) (ls : List LkT) : Prop where
 R : SlAt w B 11 AR (rs.map ruC)
 Z : SlAt w B 2 AZ (zs.map zoC)
 L : SlAt w B 2 AL (ls.map lkC)
 hR : rs.length ≤ cR
 hZ : zs.length ≤ cZ
 hL : ls.length ≤ cL
 mR : cR ≤ maxLen
 mZ : cZ ≤ maxLen
 mL : cL ≤ maxLen
 rs : ∀ r ∈ rs, ruOk r
 zs : ∀ z ∈ zs, zoOk w B z
 ls : ∀ x ∈ ls, x.1.size ≤ maxLen ∧ x.2.size ≤ maxLen
theorem zoOk.below {w w' : World} {B : Nat} {z : ZoT} (h : zoOk w B z) (hb : Below B w w') : zoOk w' B z := ⟨h.1, h.2.1.below hb, h.2.2⟩
theorem BkAt.below {w w' : World} {B : Nat} {AR AZ AL : Option Addr} {cR cZ cL : Nat} {rs : List RuT} {zs : List ZoT} {ls : List LkT} (h : BkAt w B AR AZ AL cR cZ cL rs zs ls) (hb : Below B w w') : BkAt w' B AR AZ AL cR cZ cL rs zs ls :=
 ⟨h.R.below hb, h.Z.below hb, h.L.below hb, h.hR, h.hZ, h.hL, h.mR, h.mZ, h.mL, h.rs, fun z hz => (h.zs z hz).below hb, h.ls⟩
theorem zoOk.more {w : World} {B B' : Nat} {z : ZoT} (h : zoOk w B z) (hb : B ≤ B') : zoOk w B' z := ⟨h.1, h.2.1.more hb, h.2.2⟩
structure BkD where
 (AR AZ AL : Option Addr) (cR cZ cL : Nat) (rs : List RuT) (zs : List ZoT) (ls : List LkT)
def BkD.v (d : BkD) : Array Value := #[.slice d.AR d.rs.length d.cR, .slice d.AZ d.zs.length d.cZ, .slice d.AL d.ls.length d.cL]
def BkOk (w : World) (B : Nat) (d : BkD) : Prop := BkAt w B d.AR d.AZ d.AL d.cR d.cZ d.cL d.rs d.zs d.ls
theorem BkOk.below {w w' : World} {B : Nat} {d : BkD} (h : BkOk w B d) (hb : Below B w w') : BkOk w' B d := BkAt.below h hb
theorem BkOk.more {w : World} {B B' : Nat} {d : BkD} (h : BkOk w B d) (hb : B ≤ B') : BkOk w B' d :=
 ⟨h.R.more hb, h.Z.more hb, h.L.more hb, h.hR, h.hZ, h.hL, h.mR, h.mZ, h.mL, h.rs, fun z hz => (h.zs z hz).more hb, h.ls⟩
theorem BkOk.step {w w' : World} {d : BkD} (h : BkOk w w.heap.size d) (hb : Below w.heap.size w w') : BkOk w' w'.heap.size d := (h.below hb).more hb.size
def CkAt (w : World) (g : Nat) (d : BkD) : Prop := BkOk w w.heap.size d ∧ g < w.heap.size ∧ ∀ i, w.cell? ⟨g, i, none⟩ = d.v[i]?
theorem CkAt.step {w w' : World} {g : Nat} {d : BkD} (h : CkAt w g d) (hb : Below w.heap.size w w') : CkAt w' g d :=
 ⟨h.1.step hb, Nat.lt_of_lt_of_le h.2.1 hb.size, fun i => (hb.cell (p := ⟨g, i, none⟩) h.2.1).trans (h.2.2 i)⟩
theorem CkAt.alloc {w : World} {g : Nat} {d : BkD} (h : CkAt w g d) (o : Obj) : CkAt (w.alloc o) g d := h.step ((Below.refl _ _).alloc (Nat.le_refl _) _)
theorem BkOk.box {w : World} {d : BkD} (h : BkOk w w.heap.size d) (t : TypeId) : CkAt (w.alloc (.cells d.v t)) w.heap.size d :=
 ⟨h.step ((Below.refl _ _).alloc (Nat.le_refl _) _), by simp, fun i => cell_new _ _ _ _ _ rfl⟩
end Go.Proofs.YthppifcggmdmoaaGreatDoor

