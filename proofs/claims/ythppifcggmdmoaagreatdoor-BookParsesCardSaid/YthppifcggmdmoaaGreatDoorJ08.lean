/- Part 8 of the proof of BookParses: no condition; what its declarations say stands at each. -/
import Derived.Test.YthppifcggmdmoaaGreatDoorJ02
import Derived.Test.YthppifcggmdmoaaGreatDoorJ03
import Derived.Test.YthppifcggmdmoaaGreatDoorJ04
import Derived.Lib.CutLaws
import Derived.Lib.SlicesS
namespace Go.Proofs.YthppifcggmdmoaaGreatDoor
open Go.RowKit
set_option linter.unusedVariables false
def firE (f : Nat → Int) : Nat → Int
 | 0 => 0
 | n + 1 => if firE f n = 0 then f n else firE f n
theorem firE_zero {f : Nat → Int} : ∀ {n : Nat}, (∀ j, j < n → f j = 0) → firE f n = 0
 | 0, _ => rfl
 | n + 1, h => by rw [firE, if_pos (firE_zero (fun j hj => h j (by omega)))]; exact h n (by omega)
theorem firE_at {f : Nat → Int} {k : Nat} (h : ∀ j, j < k → f j = 0) (h0 : f k ≠ 0) : ∀ {n : Nat}, k < n → firE f n = f k
 | n + 1, hk => by
  by_cases e : k = n
  ·subst e; rw [firE, if_pos (firE_zero h)]
  ·have := firE_at h h0 (n := n) (by omega)
   rw [firE, this, if_neg h0]
def sEq (a b : ByteArray) : Bool := a.toList == b.toList
def eMT : ByteArray := ⟨#[]⟩
def dASH : ByteArray := ⟨#[45]⟩
instance : Inhabited RuT := ⟨⟨⟨#[]⟩, 0, 0, 0, 0, 0, 0, 0, 0, 0, ⟨#[]⟩⟩⟩
instance : Inhabited ErT := ⟨⟨0, ⟨#[]⟩, 0, ⟨#[]⟩, 0⟩⟩
structure ZoT where
 (name : ByteArray) (A : Option Addr) (cap : Nat) (eras : List ErT)
instance : Inhabited ZoT := ⟨⟨⟨#[]⟩, none, 0, []⟩⟩
abbrev LkT := ByteArray × ByteArray
instance : Inhabited LkT := ⟨(⟨#[]⟩, ⟨#[]⟩)⟩
def zoC (z : ZoT) : List Value := [.string z.name, .slice z.A z.eras.length z.cap]
def lkC (x : LkT) : List Value := [.string x.1, .string x.2]
def ruEr (r : RuT) : Int := ruleE r.name r.letter r.f r.t r.m r.k r.wd r.n r.a r.b r.sv
def arE (x : ErT) (r : RuT) : Int := if sEq r.name x.rules = true then abE x.format r.sv r.letter else 0
def absE (rs : List RuT) (x : ErT) : Int :=
 if sEq x.rules eMT = true then abE x.format x.save dASH
 else if firE (fun j => arE x rs[j]!) rs.length = 0 then abE x.format 0 dASH else firE (fun j => arE x rs[j]!) rs.length
def hasR (rs : List RuT) (name : ByteArray) : Bool := rs.any fun r => sEq r.name name
def erE1 (rs : List RuT) (x : ErT) : Int :=
 if ¬ ((-64800 ≤ x.off ∧ x.off ≤ 64800) ∧ (0 ≤ x.save ∧ x.save ≤ 10800)) then 1
 else if x.save ≠ 0 ∧ sEq x.rules eMT = false then 5
 else if sEq x.rules eMT = false ∧ hasR rs x.rules = false then 6 else absE rs x
def erE2 (l : List ErT) (k : Nat) : Int :=
 if k + 1 = l.length then if l[k]!.until_ = 0 then 0 else 5
 else if ¬ (-1099511627776 ≤ l[k]!.until_ ∧ l[k]!.until_ ≤ 1099511627776) then 1
 else if stE l[k]!.until_ ≠ 0 then 1
 else if 0 < k ∧ l[k]!.until_ ≤ l[k - 1]!.until_ then 5 else 0
def erE (rs : List RuT) (l : List ErT) (k : Nat) : Int := if erE1 rs l[k]! = 0 then erE2 l k else erE1 rs l[k]!
def hasZ (zs : List ZoT) (name : ByteArray) : Bool := zs.any fun z => sEq z.name name
def hasL (ls : List LkT) (name : ByteArray) : Bool := ls.any fun x => sEq x.1 name
def zoE (rs : List RuT) (zs : List ZoT) (k : Nat) : Int :=
 if isNameB zs[k]!.name.data.toList = false then 3
 else if hasZ (zs.take k) zs[k]!.name = true then 7
 else if zs[k]!.eras.length = 0 then 5
 else if 700 < zs[k]!.eras.length then 2
 else firE (erE rs zs[k]!.eras) zs[k]!.eras.length
def lkE (zs : List ZoT) (ls : List LkT) (k : Nat) : Int :=
 if ¬ (isNameB ls[k]!.1.data.toList = true ∧ isNameB ls[k]!.2.data.toList = true) then 3
 else if hasZ zs ls[k]!.1 = true ∨ hasL (ls.take k) ls[k]!.1 = true then 7
 else if hasZ zs ls[k]!.2 = false ∧ hasL ls ls[k]!.2 = false then 6 else 0
def bookE (rs : List RuT) (zs : List ZoT) (ls : List LkT) : Int :=
 if 40 < rs.length ∨ 20 < zs.length ∨ 20 < ls.length then 2
 else if firE (fun j => ruEr rs[j]!) rs.length ≠ 0 then firE (fun j => ruEr rs[j]!) rs.length
 else if firE (zoE rs zs) zs.length ≠ 0 then firE (zoE rs zs) zs.length
 else firE (lkE zs ls) ls.length
theorem get_bang {α : Type} [Inhabited α] {l : List α} {k : Nat} (h : k < l.length) : l[k]! = l[k] := by simp [h]
theorem zo_at {w : World} {B : Nat} {A : Option Addr} {zs : List ZoT} (h : SlAt w B 2 A (zs.map zoC)) {k : Nat} (hk : k < zs.length) :
  ∃ b o, A = some ⟨b, o, none⟩ ∧ b < B ∧ w.cell? ⟨b, o + k * 2, none⟩ = some (.string zs[k].name) ∧ w.cell? ⟨b, o + k * 2 + 1, none⟩ = some (.slice zs[k].A zs[k].eras.length zs[k].cap) := by
 obtain ⟨b, o, h1, h2, h3⟩ := h (by simp; omega)
 have e : (zs.map zoC).getD k [] = zoC zs[k] := by simp [List.getD, hk]
 have h4 := h3 k (by simpa using hk)
 rw [e] at h4
 exact ⟨b, o, h1, h2, h4 0 (by omega), h4 1 (by omega)⟩
theorem lk_at {w : World} {B : Nat} {A : Option Addr} {ls : List LkT} (h : SlAt w B 2 A (ls.map lkC)) {k : Nat} (hk : k < ls.length) :
  ∃ b o, A = some ⟨b, o, none⟩ ∧ b < B ∧ w.cell? ⟨b, o + k * 2, none⟩ = some (.string ls[k].1) ∧ w.cell? ⟨b, o + k * 2 + 1, none⟩ = some (.string ls[k].2) := by
 obtain ⟨b, o, h1, h2, h3⟩ := h (by simp; omega)
 have e : (ls.map lkC).getD k [] = lkC ls[k] := by simp [List.getD, hk]
 have h4 := h3 k (by simpa using hk)
 rw [e] at h4
 exact ⟨b, o, h1, h2, h4 0 (by omega), h4 1 (by omega)⟩
def wf63 (n : Int) : Prop := -9223372036854775808 ≤ n ∧ n ≤ 9223372036854775807
def ruOk (r : RuT) : Prop := r.name.size ≤ maxLen ∧ r.letter.size ≤ maxLen ∧ wf63 r.f ∧ wf63 r.t ∧ wf63 r.m ∧ wf63 r.k ∧ wf63 r.wd ∧ wf63 r.n ∧ wf63 r.a ∧ wf63 r.b ∧ wf63 r.sv
def erOk (x : ErT) : Prop := x.rules.size ≤ maxLen ∧ x.format.size ≤ maxLen ∧ wf63 x.off ∧ wf63 x.save ∧ wf63 x.until_
def zoOk (w : World) (B : Nat) (z : ZoT) : Prop := z.name.size ≤ maxLen ∧ SlAt w B 5 z.A (z.eras.map erC) ∧ z.eras.length ≤ z.cap ∧ z.cap ≤ maxLen ∧ ∀ x ∈ z.eras, erOk x
structure BkAt (w : World) (B : Nat) (AR AZ AL : Option Addr) (cR cZ cL : Nat) (rs : List RuT) (zs : List ZoT) (ls : List LkT) : Prop where
 R : SlAt w B 11 AR (rs.map ruC)
 Z : SlAt w B 2 AZ (zs.map zoC)
 L : SlAt w B 2 AL (ls.map lkC)
 hR : rs.length ≤ cR
 hZ : zs.length ≤ cZ
 hL : ls.length ≤ cL
 mR : cR ≤ maxLen
 mZ : cZ ≤ maxLen
 mL : cL ≤ maxLen
 rs : ∀ r ∈ rs, ruOk r
 zs : ∀ z ∈ zs, zoOk w B z
 ls : ∀ x ∈ ls, x.1.size ≤ maxLen ∧ x.2.size ≤ maxLen
theorem zoOk.below {w w' : World} {B : Nat} {z : ZoT} (h : zoOk w B z) (hb : Below B w w') : zoOk w' B z := ⟨h.1, h.2.1.below hb, h.2.2⟩
theorem BkAt.below {w w' : World} {B : Nat} {AR AZ AL : Option Addr} {cR cZ cL : Nat} {rs : List RuT} {zs : List ZoT} {ls : List LkT} (h : BkAt w B AR AZ AL cR cZ cL rs zs ls) (hb : Below B w w') : BkAt w' B AR AZ AL cR cZ cL rs zs ls :=
 ⟨h.R.below hb, h.Z.below hb, h.L.below hb, h.hR, h.hZ, h.hL, h.mR, h.mZ, h.mL, h.rs, fun z hz => (h.zs z hz).below hb, h.ls⟩
theorem zoOk.more {w : World} {B B' : Nat} {z : ZoT} (h : zoOk w B z) (hb : B ≤ B') : zoOk w B' z := ⟨h.1, h.2.1.more hb, h.2.2⟩
structure BkD where
 (AR AZ AL : Option Addr) (cR cZ cL : Nat) (rs : List RuT) (zs : List ZoT) (ls : List LkT)
def BkD.v (d : BkD) : Array Value := #[.slice d.AR d.rs.length d.cR, .slice d.AZ d.zs.length d.cZ, .slice d.AL d.ls.length d.cL]
def BkOk (w : World) (B : Nat) (d : BkD) : Prop := BkAt w B d.AR d.AZ d.AL d.cR d.cZ d.cL d.rs d.zs d.ls
theorem BkOk.below {w w' : World} {B : Nat} {d : BkD} (h : BkOk w B d) (hb : Below B w w') : BkOk w' B d := BkAt.below h hb
theorem BkOk.more {w : World} {B B' : Nat} {d : BkD} (h : BkOk w B d) (hb : B ≤ B') : BkOk w B' d :=
 ⟨h.R.more hb, h.Z.more hb, h.L.more hb, h.hR, h.hZ, h.hL, h.mR, h.mZ, h.mL, h.rs, fun z hz => (h.zs z hz).more hb, h.ls⟩
theorem BkOk.step {w w' : World} {d : BkD} (h : BkOk w w.heap.size d) (hb : Below w.heap.size w w') : BkOk w' w'.heap.size d := (h.below hb).more hb.size
def CkAt (w : World) (g : Nat) (d : BkD) : Prop := BkOk w w.heap.size d ∧ g < w.heap.size ∧ ∀ i, w.cell? ⟨g, i, none⟩ = d.v[i]?
theorem CkAt.step {w w' : World} {g : Nat} {d : BkD} (h : CkAt w g d) (hb : Below w.heap.size w w') : CkAt w' g d :=
 ⟨h.1.step hb, Nat.lt_of_lt_of_le h.2.1 hb.size, fun i => (hb.cell (p := ⟨g, i, none⟩) h.2.1).trans (h.2.2 i)⟩
theorem CkAt.alloc {w : World} {g : Nat} {d : BkD} (h : CkAt w g d) (o : Obj) : CkAt (w.alloc o) g d := h.step ((Below.refl _ _).alloc (Nat.le_refl _) _)
theorem BkOk.box {w : World} {d : BkD} (h : BkOk w w.heap.size d) (t : TypeId) : CkAt (w.alloc (.cells d.v t)) w.heap.size d :=
 ⟨h.step ((Below.refl _ _).alloc (Nat.le_refl _) _), by simp, fun i => cell_new _ _ _ _ _ rfl⟩
end Go.Proofs.YthppifcggmdmoaaGreatDoor

namespace Go.Proofs.YthppifcggmdmoaaGreatDoor
set_option linter.unusedVariables false
theorem index_miss {x y : UInt8} : ∀ {l : List UInt8}, x ∉ l → Lib.index l [x, y] = -1
 | [], _ => rfl
 | b :: l, h => by
  have h1 : (x == b) = false := by rw [beq_eq_false_iff_ne]; intro e; exact h (by simp [e])
  have h2 : x ∉ l := fun e => h (by simp [e])
  rw [Lib.index, index_miss h2]
  simp [List.isPrefixOf, h1]
theorem index_hit {x y : UInt8} (d : List UInt8) : ∀ {a : List UInt8}, x ∉ a → Lib.index (a ++ x :: y :: d) [x, y] = a.length
 | [], _ => by rw [List.nil_append, Lib.index]; simp [List.isPrefixOf]
 | b :: l, h => by
  have h1 : (x == b) = false := by rw [beq_eq_false_iff_ne]; intro e; exact h (by simp [e])
  have h2 : x ∉ l := fun e => h (by simp [e])
  rw [List.cons_append, Lib.index, index_hit d h2]
  simp [List.isPrefixOf, h1]
theorem cut_miss {x y : UInt8} {l : List UInt8} (h : x ∉ l) : Lib.cut l [x, y] = (l, [], false) := by
 unfold Lib.cut
 rw [index_miss h, if_neg (by omega)]
theorem cut_hit {x y : UInt8} {a d : List UInt8} (h : x ∉ a) : Lib.cut (a ++ x :: y :: d) [x, y] = (a, d, true) := by
 unfold Lib.cut
 rw [index_hit d h, if_pos (by omega)]
 simp
def wordL (wd : Int) : List UInt8 := (wordV wd).data.toList
def digL (n : Int) : List UInt8 := Lib.decDigits n.toNat
theorem wordL_is {wd : Int} (h : 0 ≤ wd ∧ wd ≤ 6) : ∃ a b c, wordL wd = [a, b, c] ∧ 65 ≤ a.toNat ∧ 65 ≤ b.toNat ∧ 65 ≤ c.toNat ∧ a ≠ 108 := by
 obtain ⟨j, rfl, hj⟩ : ∃ j : Nat, wd = j ∧ j ≤ 6 := ⟨wd.toNat, by omega, by omega⟩
 rcases (show j = 0 ∨ j = 1 ∨ j = 2 ∨ j = 3 ∨ j = 4 ∨ j = 5 ∨ j = 6 by omega) with rfl | rfl | rfl | rfl | rfl | rfl | rfl
 all_goals exact ⟨_, _, _, rfl, by decide, by decide, by decide, by decide⟩
theorem dec_pos' (n : Nat) : 1 ≤ (Lib.decDigits n).length := by
 by_cases h : n < 10
 ·rw [dec_small h]; simp
 ·rw [dec_more h]; simp
theorem digL_dg (n : Int) : ∀ c ∈ digL n, isDg c := dec_dg _
theorem digL_val {n : Int} (h : 0 ≤ n ∧ n ≤ 31) : atV (digL n) = n := by
 have e := dec_val n.toNat
 rw [digL, atV_dg (dec_dg _) (by intro e; have := dec_pos' n.toNat; rw [e] at this; simp at this) (by omega), e]
 omega
def dtL (k wd n : Int) : List UInt8 := if k = 2 then 108 :: 97 :: 115 :: 116 :: wordL wd else if k = 3 then wordL wd ++ 62 :: 61 :: digL n else if k = 4 then wordL wd ++ 60 :: 61 :: digL n else digL n
theorem dtL_eq {k wd n : Int} (h : dcOk k wd n = true) : (dtV k wd n).data.toList = dtL k wd n := by
 rw [dtV_ok h, dtT, dtL]
 split
 ·simp [wordL]
 ·split
  ·simp [wordL, digL, digV]
  ·split
   ·simp [wordL, digL, digV]
   ·simp [digL, digV]
theorem no_sign {x : UInt8} (hx : x = 60 ∨ x = 62) {k wd n : Int} (h : dcOk k wd n = true) : x ∉ wordL wd ∧ x ∉ digL n := by
 constructor
 ·intro hm
  have hw : 0 ≤ wd ∧ wd ≤ 6 := by have := dcOk_iff.1 h; omega
  obtain ⟨a, b, c, e, h1, h2, h3, _⟩ := wordL_is hw
  rw [e] at hm
  simp at hm
  have hx' : x.toNat < 65 := by rcases hx with rfl | rfl <;> decide
  rcases hm with rfl | rfl | rfl <;> omega
 ·intro hm
  have := digL_dg n x hm
  unfold isDg at this
  rcases hx with rfl | rfl <;> revert this <;> decide
theorem no_last {x : UInt8} (hx : x = 60 ∨ x = 62) {l : List UInt8} (h : x ∉ l) : x ∉ 108 :: 97 :: 115 :: 116 :: l := by
 simp
 refine ⟨?_, ?_, ?_, ?_, h⟩ <;> rcases hx with rfl | rfl <;> decide
theorem cut_ge {k wd n : Int} (h : dcOk k wd n = true) : (k = 3 → Lib.cut (dtL k wd n) [62, 61] = (wordL wd, digL n, true)) ∧ (k ≠ 3 → (Lib.cut (dtL k wd n) [62, 61]).2.2 = false) := by
 obtain ⟨h1, h2⟩ := no_sign (x := 62) (Or.inr rfl) h
 obtain ⟨h3, h4⟩ := no_sign (x := 60) (Or.inl rfl) h
 refine ⟨fun e => ?_, fun e => ?_⟩
 ·subst e; exact cut_hit h1
 ·have : (62 : UInt8) ∉ dtL k wd n := by
   rcases day_cases h with ⟨hk, _⟩
   rcases hk with rfl | rfl | rfl | rfl
   ·exact h2
   ·exact no_last (Or.inr rfl) h1
   ·exact absurd rfl e
   ·show (62 : UInt8) ∉ wordL wd ++ _ :: 61 :: digL n
    simp; exact ⟨h1, h2⟩
  rw [cut_miss this]
theorem cut_le {k wd n : Int} (h : dcOk k wd n = true) : (k = 4 → Lib.cut (dtL k wd n) [60, 61] = (wordL wd, digL n, true)) ∧ (k ≠ 4 → (Lib.cut (dtL k wd n) [60, 61]).2.2 = false) := by
 obtain ⟨h1, h2⟩ := no_sign (x := 62) (Or.inr rfl) h
 obtain ⟨h3, h4⟩ := no_sign (x := 60) (Or.inl rfl) h
 refine ⟨fun e => ?_, fun e => ?_⟩
 ·subst e; exact cut_hit h3
 ·have : (60 : UInt8) ∉ dtL k wd n := by
   rcases day_cases h with ⟨hk, _⟩
   rcases hk with rfl | rfl | rfl | rfl
   ·exact h4
   ·exact no_last (Or.inl rfl) h3
   ·show (60 : UInt8) ∉ wordL wd ++ _ :: 61 :: digL n
    simp; exact ⟨h3, h4⟩
   ·exact absurd rfl e
  rw [cut_miss this]
theorem pre_last {k wd n : Int} (h : dcOk k wd n = true) : (k = 2 → Lib.hasPrefix (dtL k wd n) [108, 97, 115, 116] = true ∧ Lib.trimPrefix (dtL k wd n) [108, 97, 115, 116] = wordL wd) ∧ (k ≠ 2 → Lib.hasPrefix (dtL k wd n) [108, 97, 115, 116] = false) := by
 have hw : 0 ≤ wd ∧ wd ≤ 6 := by have := dcOk_iff.1 h; omega
 obtain ⟨a, b, c, ew, _, _, _, h4⟩ := wordL_is hw
 have h5 : ((108 : UInt8) == a) = false := by rw [beq_eq_false_iff_ne]; exact fun e => h4 e.symm
 refine ⟨fun e => ?_, fun e => ?_⟩
 ·subst e; exact ⟨rfl, rfl⟩
 ·have hd : Lib.hasPrefix (digL n) [108, 97, 115, 116] = false := by
   cases e : digL n with
   | nil => rfl
   | cons x r =>
    have := digL_dg n x (by rw [e]; simp)
    have h6 : ((108 : UInt8) == x) = false := by rw [beq_eq_false_iff_ne]; rintro rfl; unfold isDg at this; revert this; decide
    simp [Lib.hasPrefix, List.isPrefixOf, h6]
  unfold dtL
  rw [if_neg e, ew]
  split
  ·simp [Lib.hasPrefix, List.isPrefixOf, h5]
  ·split
   ·simp [Lib.hasPrefix, List.isPrefixOf, h5]
   ·exact hd
def dayB : List ByteArray := [⟨#[83, 117, 110]⟩, ⟨#[77, 111, 110]⟩, ⟨#[84, 117, 101]⟩, ⟨#[87, 101, 100]⟩, ⟨#[84, 104, 117]⟩, ⟨#[70, 114, 105]⟩, ⟨#[83, 97, 116]⟩]
def wkI (l : List UInt8) : Int := Lib.idxOfS dayB ⟨l.toArray⟩
theorem wkI_word {wd : Int} (h : 0 ≤ wd ∧ wd ≤ 6) : wkI (wordL wd) = wd := by
 obtain ⟨j, rfl, hj⟩ : ∃ j : Nat, wd = j ∧ j ≤ 6 := ⟨wd.toNat, by omega, by omega⟩
 rcases (show j = 0 ∨ j = 1 ∨ j = 2 ∨ j = 3 ∨ j = 4 ∨ j = 5 ∨ j = 6 by omega) with rfl | rfl | rfl | rfl | rfl | rfl | rfl
 all_goals rfl
def RdDy (s : ByteArray) (k wd n er : Int) : Prop := (dcOk k wd n = true ∧ dtV k wd n = s ∧ er = 0) ∨ ((∀ k wd n, dcOk k wd n = true → dtV k wd n ≠ s) ∧ k = 0 ∧ wd = 0 ∧ n = 0 ∧ er = 3)
theorem dt_one {k wd n k' wd' n' : Int} (h : dcOk k wd n = true) (h' : dcOk k' wd' n' = true) (e : dtV k wd n = dtV k' wd' n') : k = k' ∧ wd = wd' ∧ n = n' := by
 have e0 : dtL k wd n = dtL k' wd' n' := by rw [← dtL_eq h, ← dtL_eq h', e]
 have a := dcOk_iff.1 h
 have a' := dcOk_iff.1 h'
 have c1 := cut_ge h; have c2 := cut_ge h'; have d1 := cut_le h; have d2 := cut_le h'; have p1 := pre_last h; have p2 := pre_last h'
 rw [e0] at c1 d1 p1
 have hk : k = k' := by
  have x3 : k = 3 ↔ k' = 3 := by
   constructor
   ·intro q; refine Classical.byContradiction fun q' => ?_
    have := c2.2 q'; rw [c1.1 q] at this; cases this
   ·intro q; refine Classical.byContradiction fun q' => ?_
    have := c1.2 q'; rw [c2.1 q] at this; cases this
  have x4 : k = 4 ↔ k' = 4 := by
   constructor
   ·intro q; refine Classical.byContradiction fun q' => ?_
    have := d2.2 q'; rw [d1.1 q] at this; cases this
   ·intro q; refine Classical.byContradiction fun q' => ?_
    have := d1.2 q'; rw [d2.1 q] at this; cases this
  have x2 : k = 2 ↔ k' = 2 := by
   constructor
   ·intro q; refine Classical.byContradiction fun q' => ?_
    have := p2.2 q'; rw [(p1.1 q).1] at this; cases this
   ·intro q; refine Classical.byContradiction fun q' => ?_
    have := p1.2 q'; rw [(p2.1 q).1] at this; cases this
  omega
 subst hk
 have hn : digL n = digL n' → 0 ≤ n ∧ n ≤ 31 → 0 ≤ n' ∧ n' ≤ 31 → n = n' := fun q r r' => by rw [← digL_val r, ← digL_val r', q]
 have hw : wordL wd = wordL wd' → 0 ≤ wd ∧ wd ≤ 6 → 0 ≤ wd' ∧ wd' ≤ 6 → wd = wd' := fun q r r' => by rw [← wkI_word r, ← wkI_word r', q]
 rcases (show k = 1 ∨ k = 2 ∨ k = 3 ∨ k = 4 by omega) with rfl | rfl | rfl | rfl
 ·have q : digL n = digL n' := e0
  exact ⟨rfl, by omega, hn q (by omega) (by omega)⟩
 ·have q := (p1.1 rfl).2.symm.trans (p2.1 rfl).2
  exact ⟨rfl, hw q (by omega) (by omega), by omega⟩
 ·have q := (c1.1 rfl).symm.trans (c2.1 rfl)
  simp only [Prod.mk.injEq] at q
  exact ⟨rfl, hw q.1 (by omega) (by omega), hn q.2.1 (by omega) (by omega)⟩
 ·have q := (d1.1 rfl).symm.trans (d2.1 rfl)
  simp only [Prod.mk.injEq] at q
  exact ⟨rfl, hw q.1 (by omega) (by omega), hn q.2.1 (by omega) (by omega)⟩
theorem RdDy.one {s : ByteArray} {k wd n er k' wd' n' er' : Int} (h : RdDy s k wd n er) (h' : RdDy s k' wd' n' er') : k = k' ∧ wd = wd' ∧ n = n' ∧ er = er' := by
 rcases h with ⟨h1, h2, rfl⟩ | ⟨h1, rfl, rfl, rfl, rfl⟩
 ·rcases h' with ⟨h3, h4, rfl⟩ | ⟨h3, _⟩
  ·obtain ⟨a, b, c⟩ := dt_one h1 h3 (h2.trans h4.symm)
   exact ⟨a, b, c, rfl⟩
  ·exact absurd h2 (h3 _ _ _ h1)
 ·rcases h' with ⟨h3, h4, rfl⟩ | ⟨_, rfl, rfl, rfl, rfl⟩
  ·exact absurd h4 (h1 _ _ _ h3)
  ·exact ⟨rfl, rfl, rfl, rfl⟩
end Go.Proofs.YthppifcggmdmoaaGreatDoor

