/- Part 12 of the proof of TopWall: no condition; what its declarations say stands at each. -/
import Derived.Test.YthppifcggmdmoaaGreatDoorW10
import Derived.Test.YthppifcggmdmoaaGreatDoorW11
import Derived.Test.YthppifcggmdmoaaGreatDoorW05
import Derived.Test.YthppifcggmdmoaaGreatDoorW08
namespace Go.Proofs.YthppifcggmdmoaaGreatDoor
set_option linter.unusedVariables false
set_option linter.unusedSimpArgs false
structure Rdr where
 ru : ByteArray → RuT × Int
 sp : ByteArray → Int × Int
 st : ByteArray → Int × Int
 hru : ∀ s, RdRu s (ru s).1 (ru s).2
 hsp : ∀ s, RdIs s (sp s).1 (sp s).2
 hst : ∀ s, RdSt s (st s).1 (st s).2
theorem rdr_ex : ∃ F : Rdr, True := by
 have h1 : ∀ s, ∃ p : RuT × Int, RdRu s p.1 p.2 := fun s => by
  by_cases h : ∃ r, ruEr r = 0 ∧ ruTx r = s
  ·obtain ⟨r, a, b⟩ := h; exact ⟨(r, 0), Or.inl ⟨a, b, rfl⟩⟩
  ·exact ⟨(default, 3), Or.inr ⟨fun q a b => h ⟨q, a, b⟩, rfl, rfl⟩⟩
 have h2 : ∀ s, ∃ p : Int × Int, RdIs s p.1 p.2 := fun s => by
  by_cases h : ∃ n, spOk n = true ∧ spV n = s
  ·obtain ⟨r, a, b⟩ := h; exact ⟨(r, 0), Or.inl ⟨a, b, rfl⟩⟩
  ·exact ⟨(0, 3), Or.inr ⟨fun q a b => h ⟨q, a, b⟩, rfl, rfl⟩⟩
 have h3 : ∀ s, ∃ p : Int × Int, RdSt s p.1 p.2 := fun s => by
  by_cases h : ∃ t, dateOk (t / 86400) = true ∧ stV t = s
  ·obtain ⟨r, a, b⟩ := h; exact ⟨(r, 0), Or.inl ⟨a, b, rfl⟩⟩
  ·exact ⟨(0, 3), Or.inr ⟨fun q a b => h ⟨q, a, b⟩, rfl, rfl⟩⟩
 exact ⟨⟨fun s => Classical.choose (h1 s), fun s => Classical.choose (h2 s), fun s => Classical.choose (h3 s), fun s => Classical.choose_spec (h1 s), fun s => Classical.choose_spec (h2 s), fun s => Classical.choose_spec (h3 s)⟩, trivial⟩
theorem Rdr.ru_eq (F : Rdr) {s : ByteArray} {r : RuT} {e : Int} (h : RdRu s r e) : F.ru s = (r, e) := by
 obtain ⟨a, b⟩ := (F.hru s).one h; exact Prod.ext a b
theorem Rdr.sp_eq (F : Rdr) {s : ByteArray} {a b : Int} (h : RdIs s a b) : F.sp s = (a, b) := by
 obtain ⟨a, b⟩ := (F.hsp s).one h; exact Prod.ext a b
theorem Rdr.st_eq (F : Rdr) {s : ByteArray} {a b : Int} (h : RdSt s a b) : F.st s = (a, b) := by
 obtain ⟨a, b⟩ := (F.hst s).one h; exact Prod.ext a b
def zONE : ByteArray := ⟨#[122, 111, 110, 101]⟩
def eRA : ByteArray := ⟨#[101, 114, 97]⟩
def lINK : ByteArray := ⟨#[108, 105, 110, 107]⟩
def wordB (c : UInt8) (s : ByteArray) : List ByteArray := (lSplit c s.data.toList).map fun l => ⟨l.toArray⟩
theorem wordB_of {c : UInt8} {s : ByteArray} {ws : List ByteArray} (h : ws.map (·.data.toList) = lSplit c s.data.toList) : ws = wordB c s := by
 unfold wordB
 rw [← h, List.map_map]
 have e : ((fun l : List UInt8 => (⟨l.toArray⟩ : ByteArray)) ∘ fun b : ByteArray => b.data.toList) = id := by funext b; simp
 rw [e, List.map_id]
theorem wordB_ne (c : UInt8) (s : ByteArray) : wordB c s ≠ [] := by
 unfold wordB
 intro e
 exact lSplit_ne c s.data.toList (List.map_eq_nil_iff.1 e)
structure PbS where
 rs : List RuT
 zs : List (ByteArray × List ErT)
 ls : List LkT
 op : Bool
def pb0 : PbS := ⟨[], [], [], false⟩
def isNeg (s : ByteArray) : Bool := Lib.hasPrefix s.data.toList [45]
def saveV (F : Rdr) (s : ByteArray) : Int × Int := if isNeg s = true then F.sp ⟨(s.data.toList.drop 1).toArray⟩ else (0, if isNameB s.data.toList = true then 0 else 3)
def untV (F : Rdr) (w : List ByteArray) : Int × Int := if w.length = 5 then F.st (w.getD 4 eMT) else (0, 0)
def eraV (F : Rdr) (w : List ByteArray) : ErT := ⟨(F.sp (w.getD 1 eMT)).1, if isNeg (w.getD 2 eMT) = true then eMT else w.getD 2 eMT, (saveV F (w.getD 2 eMT)).1, w.getD 3 eMT, (untV F w).1⟩
def eraG (F : Rdr) (w : List ByteArray) : Prop := (F.sp (w.getD 1 eMT)).2 = 0 ∧ (saveV F (w.getD 2 eMT)).2 = 0 ∧ (untV F w).2 = 0
def addEra (zs : List (ByteArray × List ErT)) (x : ErT) : List (ByteArray × List ErT) := zs.dropLast ++ [((zs.getLastD (eMT, [])).1, (zs.getLastD (eMT, [])).2 ++ [x])]
def LineIs (F : Rdr) (st : PbS) (s : ByteArray) (r : Option PbS) : Prop :=
 let w := wordB 32 s
 let w0 := w.getD 0 eMT
 (w0 = rULE ∧ (st.zs = [] ∧ st.ls = [] ∧ (F.ru s).2 = 0) ∧ r = some ⟨st.rs ++ [(F.ru s).1], st.zs, st.ls, st.op⟩) ∨
 (w0 = zONE ∧ (st.op = false ∧ st.ls = [] ∧ w.length = 2) ∧ r = some ⟨st.rs, st.zs ++ [(w.getD 1 eMT, [])], st.ls, true⟩) ∨
 (w0 = lINK ∧ (st.op = false ∧ w.length = 3) ∧ r = some ⟨st.rs, st.zs, st.ls ++ [(w.getD 1 eMT, w.getD 2 eMT)], st.op⟩) ∨
 (w0 = eRA ∧ (st.op = true ∧ (w.length = 4 ∨ w.length = 5) ∧ eraG F w) ∧ r = some ⟨st.rs, addEra st.zs (eraV F w), st.ls, decide (w.length = 5)⟩) ∨
 (r = none ∧ ¬ (w0 = rULE ∧ st.zs = [] ∧ st.ls = [] ∧ (F.ru s).2 = 0) ∧ ¬ (w0 = zONE ∧ st.op = false ∧ st.ls = [] ∧ w.length = 2) ∧ ¬ (w0 = lINK ∧ st.op = false ∧ w.length = 3) ∧ ¬ (w0 = eRA ∧ st.op = true ∧ (w.length = 4 ∨ w.length = 5) ∧ eraG F w))
theorem words_ne : rULE ≠ zONE ∧ rULE ≠ lINK ∧ rULE ≠ eRA ∧ zONE ≠ lINK ∧ zONE ≠ eRA ∧ lINK ≠ eRA := by decide
theorem LineIs.one {F : Rdr} {st : PbS} {s : ByteArray} {r r' : Option PbS} (h : LineIs F st s r) (h' : LineIs F st s r') : r = r' := by
 obtain ⟨n1, n2, n3, n4, n5, n6⟩ := words_ne
 rcases h with ⟨a, b, rfl⟩ | ⟨a, b, rfl⟩ | ⟨a, b, rfl⟩ | ⟨a, b, rfl⟩ | ⟨rfl, a, b, c, d⟩ <;> rcases h' with ⟨a', b', rfl⟩ | ⟨a', b', rfl⟩ | ⟨a', b', rfl⟩ | ⟨a', b', rfl⟩ | ⟨rfl, a', b', c', d'⟩
 ·rfl
 ·exact absurd (a.symm.trans a') n1
 ·exact absurd (a.symm.trans a') n2
 ·exact absurd (a.symm.trans a') n3
 ·exact absurd ⟨a, b⟩ a'
 ·exact absurd (a'.symm.trans a) n1
 ·rfl
 ·exact absurd (a.symm.trans a') n4
 ·exact absurd (a.symm.trans a') n5
 ·exact absurd ⟨a, b⟩ b'
 ·exact absurd (a'.symm.trans a) n2
 ·exact absurd (a'.symm.trans a) n4
 ·rfl
 ·exact absurd (a.symm.trans a') n6
 ·exact absurd ⟨a, b⟩ c'
 ·exact absurd (a'.symm.trans a) n3
 ·exact absurd (a'.symm.trans a) n5
 ·exact absurd (a'.symm.trans a) n6
 ·rfl
 ·exact absurd ⟨a, b⟩ d'
 ·exact absurd ⟨a', b'⟩ a
 ·exact absurd ⟨a', b'⟩ b
 ·exact absurd ⟨a', b'⟩ c
 ·exact absurd ⟨a', b'⟩ d
 ·rfl
def Ran (F : Rdr) (L : List ByteArray) : Nat → PbS → Prop
 | 0, st => st = pb0
 | k + 1, st => ∃ s0, Ran F L k s0 ∧ LineIs F s0 (L.getD k eMT) (some st)
theorem Ran.one {F : Rdr} {L : List ByteArray} : ∀ {k : Nat} {a b : PbS}, Ran F L k a → Ran F L k b → a = b
 | 0, a, b, h, h' => h.trans h'.symm
 | k + 1, a, b, ⟨s, h1, h2⟩, ⟨s', h1', h2'⟩ => by
  obtain rfl := h1.one h1'
  exact Option.some.inj (h2.one h2')
theorem Ran.less {F : Rdr} {L : List ByteArray} {k : Nat} {st : PbS} (h : Ran F L k st) : ∀ j, j < k → ∃ a b, Ran F L j a ∧ LineIs F a (L.getD j eMT) (some b) := by
 induction k generalizing st with
 | zero => intro j hj; omega
 | succ k ih =>
  obtain ⟨s0, h1, h2⟩ := h
  intro j hj
  by_cases e : j = k
  ·subst e; exact ⟨s0, st, h1, h2⟩
  ·exact ih h1 j (by omega)
def zoP (z : ZoT) : ByteArray × List ErT := (z.name, z.eras)
theorem bang_map {zs zs' : List ZoT} (h : zs.map zoP = zs'.map zoP) (k : Nat) : zoP zs[k]! = zoP zs'[k]! := by
 have hl : zs.length = zs'.length := by have := congrArg List.length h; simpa using this
 by_cases hk : k < zs.length
 ·have h2 := congrArg (fun l => l[k]?) h
  simp only [List.getElem?_map] at h2
  rw [List.getElem?_eq_getElem hk, List.getElem?_eq_getElem (by omega : k < zs'.length)] at h2
  rw [get_bang hk, get_bang (by omega)]
  simpa using h2
 ·have e1 : zs[k]! = default := by simp [hk]
  have e2 : zs'[k]! = default := by simp [show ¬ k < zs'.length by omega]
  rw [e1, e2]
theorem hasZ_map {zs zs' : List ZoT} (h : zs.map zoP = zs'.map zoP) (n : ByteArray) : hasZ zs n = hasZ zs' n := by
 have e : ∀ l : List ZoT, hasZ l n = (l.map zoP).any fun p => sEq p.1 n := fun l => by unfold hasZ; rw [List.any_map]; rfl
 rw [e, e, h]
theorem bookE_map {rs : List RuT} {zs zs' : List ZoT} {ls : List LkT} (h : zs.map zoP = zs'.map zoP) : bookE rs zs ls = bookE rs zs' ls := by
 have hl : zs.length = zs'.length := by have := congrArg List.length h; simpa using this
 have hz : zoE rs zs = zoE rs zs' := by
  funext k
  have hb := bang_map h k
  unfold zoP at hb
  simp only [Prod.mk.injEq] at hb
  unfold zoE
  rw [hb.1, hb.2, hasZ_map (show (zs.take k).map zoP = (zs'.take k).map zoP by rw [List.map_take, List.map_take, h])]
 have hk : lkE zs ls = lkE zs' ls := by
  funext k
  unfold lkE
  rw [hasZ_map h, hasZ_map h]
 unfold bookE
 rw [hl, hz, hk]
def toZ (p : ByteArray × List ErT) : ZoT := ⟨p.1, none, 0, p.2⟩
theorem toZ_zoP (l : List (ByteArray × List ErT)) : (l.map toZ).map zoP = l := by
 rw [List.map_map]
 have e : zoP ∘ toZ = id := rfl
 rw [e, List.map_id]
def chkE (st : PbS) : Int := bookE st.rs (st.zs.map toZ) st.ls
def BkIs (F : Rdr) (s : ByteArray) (b : PbS) (n e : Int) : Prop :=
  (60000 < s.size ∧ b = pb0 ∧ n = 0 ∧ e = 2) ∨
  (s.size = 0 ∧ b = pb0 ∧ n = 0 ∧ e = 0) ∨
  ((0 < s.size ∧ s.size ≤ 60000) ∧
    ((∃ (k : Nat) (st : PbS), k < (wordB 10 s).length ∧ Ran F (wordB 10 s) k st ∧ LineIs F st ((wordB 10 s).getD k eMT) none ∧ b = pb0 ∧ n = (k : Int) + 1 ∧ e = 3) ∨
     (∃ st : PbS, Ran F (wordB 10 s) (wordB 10 s).length st ∧
       ((st.op = true ∧ b = pb0 ∧ n = ((wordB 10 s).length : Int) + 1 ∧ e = 3) ∨ (st.op = false ∧ chkE st ≠ 0 ∧ b = pb0 ∧ n = 0 ∧ e = chkE st) ∨ (st.op = false ∧ chkE st = 0 ∧ b = st ∧ n = 0 ∧ e = 0)))))
theorem BkIs.one {F : Rdr} {s : ByteArray} {b b' : PbS} {n e n' e' : Int} (h : BkIs F s b n e) (h' : BkIs F s b' n' e') : b = b' ∧ n = n' ∧ e = e' := by
 rcases h with ⟨a, rfl, rfl, rfl⟩ | ⟨a, rfl, rfl, rfl⟩ | ⟨a, h⟩
 ·rcases h' with ⟨a', rfl, rfl, rfl⟩ | ⟨a', _⟩ | ⟨a', _⟩
  ·exact ⟨rfl, rfl, rfl⟩
  ·omega
  ·omega
 ·rcases h' with ⟨a', _⟩ | ⟨a', rfl, rfl, rfl⟩ | ⟨a', _⟩
  ·omega
  ·exact ⟨rfl, rfl, rfl⟩
  ·omega
 ·rcases h' with ⟨a', _⟩ | ⟨a', _⟩ | ⟨_, h'⟩
  ·omega
  ·omega
  ·rcases h with ⟨k, st, hk, r, l, rfl, rfl, rfl⟩ | ⟨st, r, h⟩
   ·rcases h' with ⟨k', st', hk', r', l', rfl, rfl, rfl⟩ | ⟨st', r', _⟩
    ·have hkk : k = k' := by
      rcases Nat.lt_trichotomy k k' with h | h | h
      ·obtain ⟨x, y, hx, hy⟩ := r'.less k h
       obtain rfl := r.one hx
       exact absurd (l.one hy) (by simp)
      ·exact h
      ·obtain ⟨x, y, hx, hy⟩ := r.less k' h
       obtain rfl := r'.one hx
       exact absurd (l'.one hy) (by simp)
     exact ⟨rfl, by rw [hkk], rfl⟩
    ·obtain ⟨x, y, hx, hy⟩ := r'.less k hk
     obtain rfl := r.one hx
     exact absurd (l.one hy) (by simp)
   ·rcases h' with ⟨k', st', hk', r', l', _⟩ | ⟨st', r', h'⟩
    ·obtain ⟨x, y, hx, hy⟩ := r.less k' hk'
     obtain rfl := r'.one hx
     exact absurd (l'.one hy) (by simp)
    ·obtain rfl := r.one r'
     rcases h with ⟨a1, rfl, rfl, rfl⟩ | ⟨a1, a2, rfl, rfl, rfl⟩ | ⟨a1, a2, rfl, rfl, rfl⟩ <;> rcases h' with ⟨b1, rfl, rfl, rfl⟩ | ⟨b1, b2, rfl, rfl, rfl⟩ | ⟨b1, b2, rfl, rfl, rfl⟩ <;> first | exact ⟨rfl, rfl, rfl⟩ | exact absurd b2 a2 | exact absurd a2 b2 | (rw [a1] at b1; cases b1)
theorem wordB_size {c : UInt8} {s : ByteArray} : ∀ b ∈ wordB c s, b.size ≤ s.size := by
 intro b hb
 obtain ⟨l, hl, rfl⟩ := List.mem_map.1 hb
 have h1 := lSplit_len c s.data.toList l hl
 have e : s.size = s.data.toList.length := Lib.size_eq s
 have e2 : (⟨l.toArray⟩ : ByteArray).size = l.length := by simp [ByteArray.size]
 omega
theorem wordB_getD {c : UInt8} {s : ByteArray} (i : Nat) : ((wordB c s).getD i eMT).size ≤ s.size := by
 by_cases h : i < (wordB c s).length
 ·have e : (wordB c s).getD i eMT = (wordB c s)[i] := by simp [List.getD, h]
  rw [e]; exact wordB_size _ (List.getElem_mem h)
 ·have e : (wordB c s).getD i eMT = eMT := by simp [List.getD, show (wordB c s)[i]? = none from List.getElem?_eq_none (by omega)]
  rw [e]; exact Nat.zero_le _
structure PbG (st : PbS) : Prop where
 op : st.op = true → st.ls = [] ∧ st.zs ≠ []
 ru : ∀ r ∈ st.rs, ruEr r = 0
 zo : ∀ z ∈ st.zs, z.1.size ≤ maxLen ∧ ∀ x ∈ z.2, erOk x
 lk : ∀ x ∈ st.ls, x.1.size ≤ maxLen ∧ x.2.size ≤ maxLen
theorem pbg_zero : PbG pb0 := ⟨fun h => (by cases h), fun r h => (by cases h), fun r h => (by cases h), fun r h => (by cases h)⟩
theorem era_ok (F : Rdr) {s : ByteArray} (hs : s.size ≤ maxLen) : erOk (eraV F (wordB 32 s)) := by
 have hsp : ∀ t, wf63 (F.sp t).1 := fun t => by
  unfold wf63
  rcases F.hsp t with ⟨h, _⟩ | ⟨_, h, _⟩
  ·have := spOk_iff.1 h; omega
  ·rw [h]; omega
 have hst : ∀ t, wf63 (F.st t).1 := fun t => by
  unfold wf63
  rcases F.hst t with ⟨h, _⟩ | ⟨_, h, _⟩
  ·have := dateOk_iff.1 h; omega
  ·rw [h]; omega
 refine ⟨?_, Nat.le_trans (wordB_getD 3) hs, hsp _, ?_, ?_⟩
 ·show (if isNeg _ = true then eMT else _ : ByteArray).size ≤ maxLen
  split
  ·exact Nat.zero_le _
  ·exact Nat.le_trans (wordB_getD 2) hs
 ·show wf63 (saveV F _).1
  unfold saveV
  split
  ·exact hsp _
  ·show wf63 0; unfold wf63; omega
 ·show wf63 (untV F _).1
  unfold untV
  split
  ·exact hst _
  ·show wf63 0; unfold wf63; omega
theorem add_mem {zs : List (ByteArray × List ErT)} {x : ErT} {p : ByteArray × List ErT} (h : p ∈ addEra zs x) (hz : zs ≠ []) : p ∈ zs ∨ ∃ q ∈ zs, p = (q.1, q.2 ++ [x]) := by
 unfold addEra at h
 rcases List.mem_append.1 h with h | h
 ·exact Or.inl (List.dropLast_subset _ h)
 ·right
  rw [List.mem_singleton.1 h]
  refine ⟨zs.getLastD (eMT, []), ?_, rfl⟩
  rw [List.getLastD_eq_getLast?, List.getLast?_eq_some_getLast hz]
  exact List.getLast_mem hz
theorem PbG.step {F : Rdr} {st : PbS} {s : ByteArray} {r : PbS} (h : PbG st) (hs : s.size ≤ maxLen) (hl : LineIs F st s (some r)) : PbG r := by
 rcases hl with ⟨a, b, e⟩ | ⟨a, b, e⟩ | ⟨a, b, e⟩ | ⟨a, b, e⟩ | ⟨e, _⟩
 ·cases e
  refine ⟨h.op, fun q hq => ?_, h.zo, h.lk⟩
  rcases List.mem_append.1 hq with hq | hq
  ·exact h.ru q hq
  ·rw [List.mem_singleton.1 hq]
   rcases F.hru s with ⟨h1, _⟩ | ⟨_, _, h3⟩
   ·exact h1
   ·rw [b.2.2] at h3; cases h3
 ·cases e
  refine ⟨fun _ => ⟨b.2.1, by simp⟩, h.ru, fun q hq => ?_, h.lk⟩
  rcases List.mem_append.1 hq with hq | hq
  ·exact h.zo q hq
  ·rw [List.mem_singleton.1 hq]; exact ⟨Nat.le_trans (wordB_getD 1) hs, fun x hx => by cases hx⟩
 ·cases e
  refine ⟨fun h1 => (by rw [b.1] at h1; cases h1), h.ru, h.zo, fun q hq => ?_⟩
  rcases List.mem_append.1 hq with hq | hq
  ·exact h.lk q hq
  ·rw [List.mem_singleton.1 hq]; exact ⟨Nat.le_trans (wordB_getD 1) hs, Nat.le_trans (wordB_getD 2) hs⟩
 ·cases e
  refine ⟨fun _ => ⟨(h.op b.1).1, by simp [addEra]⟩, h.ru, fun q hq => ?_, h.lk⟩
  rcases add_mem hq (h.op b.1).2 with hq | ⟨y, hy, rfl⟩
  ·exact h.zo q hq
  ·refine ⟨(h.zo y hy).1, fun x hx => ?_⟩
   rcases List.mem_append.1 hx with hx | hx
   ·exact (h.zo y hy).2 x hx
   ·rw [List.mem_singleton.1 hx]; exact era_ok F hs
 ·cases e
def stgV (st : PbS) : Int := if st.op = true then 2 else if st.ls ≠ [] then 3 else if st.zs ≠ [] then 1 else 0
end Go.Proofs.YthppifcggmdmoaaGreatDoor

namespace Go.Proofs.YthppifcggmdmoaaGreatDoor
set_option linter.unusedVariables false
def wkS : ByteArray := ⟨#[122, 111, 110, 101, 32, 65, 10, 101, 114, 97, 32, 49, 58, 48, 48, 32, 45, 48, 58, 48, 48, 32, 67, 69, 84, 32, 49, 57, 55, 48, 45, 48, 49, 45, 48, 49, 84, 48, 48, 58, 48, 48, 58, 48, 48, 10, 101, 114, 97, 32, 48, 58, 48, 48, 32, 45, 48, 58, 48, 48, 32, 71, 77, 84]⟩
def wkA : ByteArray := ⟨#[65]⟩
def wkL0 : ByteArray := ⟨#[122, 111, 110, 101, 32, 65]⟩
def wkL1 : ByteArray := ⟨#[101, 114, 97, 32, 49, 58, 48, 48, 32, 45, 48, 58, 48, 48, 32, 67, 69, 84, 32, 49, 57, 55, 48, 45, 48, 49, 45, 48, 49, 84, 48, 48, 58, 48, 48, 58, 48, 48]⟩
def wkL2 : ByteArray := ⟨#[101, 114, 97, 32, 48, 58, 48, 48, 32, 45, 48, 58, 48, 48, 32, 71, 77, 84]⟩
def wk1 : ByteArray := ⟨#[49, 58, 48, 48]⟩
def wk0 : ByteArray := ⟨#[48, 58, 48, 48]⟩
def wkM : ByteArray := ⟨#[45, 48, 58, 48, 48]⟩
def wkC : ByteArray := ⟨#[67, 69, 84]⟩
def wkG : ByteArray := ⟨#[71, 77, 84]⟩
def wkD : ByteArray := ⟨#[49, 57, 55, 48, 45, 48, 49, 45, 48, 49, 84, 48, 48, 58, 48, 48, 58, 48, 48]⟩
theorem wk_lines : wordB 10 wkS = [wkL0, wkL1, wkL2] := by kernel_rfl
theorem wk_w0 : wordB 32 wkL0 = [zONE, wkA] := by kernel_rfl
theorem wk_w1 : wordB 32 wkL1 = [eRA, wk1, wkM, wkC, wkD] := by kernel_rfl
theorem wk_w2 : wordB 32 wkL2 = [eRA, wk0, wkM, wkG] := by kernel_rfl
theorem wk_sp1 (F : Rdr) : F.sp wk1 = (3600, 0) := F.sp_eq (Or.inl ⟨by kernel_rfl, by kernel_rfl, rfl⟩)
theorem wk_sp0 (F : Rdr) : F.sp wk0 = (0, 0) := F.sp_eq (Or.inl ⟨by kernel_rfl, by kernel_rfl, rfl⟩)
theorem wk_st (F : Rdr) : F.st wkD = (0, 0) := F.st_eq (Or.inl ⟨by kernel_rfl, by kernel_rfl, rfl⟩)
theorem wk_sv (F : Rdr) : saveV F wkM = (0, 0) := by
 have h : isNeg wkM = true := by kernel_rfl
 have e : (⟨(wkM.data.toList.drop 1).toArray⟩ : ByteArray) = wk0 := by kernel_rfl
 unfold saveV
 rw [if_pos h, e, wk_sp0]
def wkE1 : ErT := ⟨3600, eMT, 0, wkC, 0⟩
def wkE2 : ErT := ⟨0, eMT, 0, wkG, 0⟩
def wkEs : List ErT := [wkE1, wkE2]
def wkP1 : PbS := ⟨[], [(wkA, [])], [], true⟩
def wkP2 : PbS := ⟨[], [(wkA, [wkE1])], [], true⟩
def wkSt : PbS := ⟨[], [(wkA, wkEs)], [], false⟩
theorem wk_e1 (F : Rdr) : eraV F [eRA, wk1, wkM, wkC, wkD] = wkE1 := by
 have h : isNeg wkM = true := by kernel_rfl
 unfold eraV untV
 show (⟨(F.sp wk1).1, if isNeg wkM = true then eMT else wkM, (saveV F wkM).1, wkC, (F.st wkD).1⟩ : ErT) = wkE1
 rw [wk_sp1, wk_sv, wk_st, if_pos h]; rfl
theorem wk_e2 (F : Rdr) : eraV F [eRA, wk0, wkM, wkG] = wkE2 := by
 have h : isNeg wkM = true := by kernel_rfl
 unfold eraV untV
 show (⟨(F.sp wk0).1, if isNeg wkM = true then eMT else wkM, (saveV F wkM).1, wkG, (0 : Int)⟩ : ErT) = wkE2
 rw [wk_sp0, wk_sv, if_pos h]; rfl
theorem wk_g1 (F : Rdr) : eraG F [eRA, wk1, wkM, wkC, wkD] := by
 unfold eraG untV
 show (F.sp wk1).2 = 0 ∧ (saveV F wkM).2 = 0 ∧ (F.st wkD).2 = 0
 rw [wk_sp1, wk_sv, wk_st]; exact ⟨rfl, rfl, rfl⟩
theorem wk_g2 (F : Rdr) : eraG F [eRA, wk0, wkM, wkG] := by
 unfold eraG untV
 show (F.sp wk0).2 = 0 ∧ (saveV F wkM).2 = 0 ∧ (0 : Int) = 0
 rw [wk_sp0, wk_sv]; exact ⟨rfl, rfl, rfl⟩
theorem wk_l0 (F : Rdr) : LineIs F pb0 wkL0 (some wkP1) := by
 unfold LineIs
 simp only [wk_w0]
 exact Or.inr (Or.inl ⟨rfl, ⟨rfl, rfl, rfl⟩, rfl⟩)
theorem wk_l1 (F : Rdr) : LineIs F wkP1 wkL1 (some wkP2) := by
 unfold LineIs
 simp only [wk_w1, wk_e1]
 exact Or.inr (Or.inr (Or.inr (Or.inl ⟨rfl, ⟨rfl, Or.inr rfl, wk_g1 F⟩, rfl⟩)))
theorem wk_l2 (F : Rdr) : LineIs F wkP2 wkL2 (some wkSt) := by
 unfold LineIs
 simp only [wk_w2, wk_e2]
 exact Or.inr (Or.inr (Or.inr (Or.inl ⟨rfl, ⟨rfl, Or.inl rfl, wk_g2 F⟩, rfl⟩)))
theorem wk_chk : chkE wkSt = 0 := by kernel_rfl
theorem wk_is (F : Rdr) : BkIs F wkS wkSt 0 0 := by
 refine Or.inr (Or.inr ⟨⟨by decide, by decide⟩, Or.inr ⟨wkSt, ?_, Or.inr (Or.inr ⟨rfl, wk_chk, rfl, rfl, rfl⟩)⟩⟩)
 rw [wk_lines]
 exact ⟨wkP2, ⟨wkP1, ⟨pb0, rfl, wk_l0 F⟩, wk_l1 F⟩, wk_l2 F⟩
end Go.Proofs.YthppifcggmdmoaaGreatDoor

