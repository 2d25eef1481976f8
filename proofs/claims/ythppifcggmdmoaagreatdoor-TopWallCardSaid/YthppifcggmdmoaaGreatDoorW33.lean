/- Part 33 of the proof of TopWall: no condition; what its declarations say stands at each. -/
import Derived.Test.YthppifcggmdmoaaGreatDoorW13
import Derived.Maps.OwnSet
import Derived.Test.YthppifcggmdmoaaGreatDoorW20
import Derived.Deep.AppendLies
namespace Go.Proofs.YthppifcggmdmoaaGreatDoor
open Go.RowKit
set_option linter.unusedVariables false
theorem bookE_inv {rs : List RuT} {zs : List ZoT} {ls : List LkT} (h : bookE rs zs ls = 0) :
  (rs.length ≤ 40 ∧ zs.length ≤ 20 ∧ ls.length ≤ 20) ∧ (∀ j, j < rs.length → ruEr rs[j]! = 0) ∧ (∀ j, j < zs.length → zoE rs zs j = 0) ∧ ∀ j, j < ls.length → lkE zs ls j = 0 := by
 rw [bookE] at h
 split at h
 ·cases h
 ·split at h
  ·rename_i h1; exact absurd h h1
  ·rename_i h1
   split at h
   ·rename_i h2; exact absurd h h2
   ·rename_i h2
    exact ⟨by omega, firE_inv (f := fun j => ruEr rs[j]!) (Classical.not_not.1 h1), firE_inv (Classical.not_not.1 h2), firE_inv h⟩
theorem zoE_inv {rs : List RuT} {zs : List ZoT} {k : Nat} (h : zoE rs zs k = 0) : isNameB zs[k]!.name.data.toList = true ∧ hasZ (zs.take k) zs[k]!.name = false ∧ 0 < zs[k]!.eras.length ∧ zs[k]!.eras.length ≤ 700 ∧ firE (erE rs zs[k]!.eras) zs[k]!.eras.length = 0 := by
 rw [zoE] at h
 split at h
 ·cases h
 ·rename_i h1
  split at h
  ·cases h
  ·rename_i h2
   split at h
   ·cases h
   ·split at h
    ·cases h
    ·exact ⟨by simpa using h1, by simpa using h2, by omega, by omega, h⟩
theorem lkE_inv {zs : List ZoT} {ls : List LkT} {k : Nat} (h : lkE zs ls k = 0) : (isNameB ls[k]!.1.data.toList = true ∧ isNameB ls[k]!.2.data.toList = true) ∧ (hasZ zs ls[k]!.1 = false ∧ hasL (ls.take k) ls[k]!.1 = false) ∧ (hasZ zs ls[k]!.2 = true ∨ hasL ls ls[k]!.2 = true) := by
 rw [lkE] at h
 split at h
 ·cases h
 ·rename_i h1
  split at h
  ·cases h
  ·rename_i h2
   split at h
   ·cases h
   ·rename_i h3
    refine ⟨Classical.not_not.1 h1, ?_, ?_⟩
    ·cases a : hasZ zs ls[k]!.1 <;> cases b : hasL (ls.take k) ls[k]!.1 <;> simp_all
    ·cases a : hasZ zs ls[k]!.2 <;> cases b : hasL ls ls[k]!.2 <;> simp_all
theorem pair_of {α : Type} [Inhabited α] (key : α → ByteArray) : ∀ (l : List α), (∀ k, k < l.length → ((l.take k).any fun z => sEq (key z) (key l[k]!)) = false) → l.Pairwise (fun a b => key a ≠ key b) := by
 intro l h
 rw [List.pairwise_iff_getElem]
 intro i j hi hj hij e
 have h1 := h j hj
 rw [List.any_eq_false] at h1
 have h2 : l[i] ∈ l.take j := by rw [List.mem_take_iff_getElem]; exact ⟨i, by omega, rfl⟩
 apply h1 _ h2
 rw [get_bang hj, ← e]; exact sEq_iff.2 rfl
theorem zs_pair {rs : List RuT} {zs : List ZoT} {ls : List LkT} (h : bookE rs zs ls = 0) : zs.Pairwise (fun a b => a.name ≠ b.name) :=
 pair_of ZoT.name zs fun k hk => (zoE_inv ((bookE_inv h).2.2.1 k hk)).2.1
theorem ls_pair {rs : List RuT} {zs : List ZoT} {ls : List LkT} (h : bookE rs zs ls = 0) : ls.Pairwise (fun a b => a.1 ≠ b.1) :=
 pair_of (α := LkT) Prod.fst ls fun k hk => (lkE_inv ((bookE_inv h).2.2.2 k hk)).2.1.2
inductive RsT where
 | zone (z : ZoT)
 | none
 | loop
def fiZ (zs : List ZoT) (nm : ByteArray) : Option ZoT := zs.find? fun z => sEq z.name nm
def fiL (ls : List LkT) (nm : ByteArray) : Option LkT := ls.find? fun x => sEq x.1 nm
def res (zs : List ZoT) (ls : List LkT) : Nat → ByteArray → RsT
 | 0, _ => .loop
 | n + 1, nm => match fiZ zs nm with
  | some z => .zone z
  | none => match fiL ls nm with
   | some x => res zs ls n x.2
   | none => .none
theorem res_zone {zs : List ZoT} {ls : List LkT} {n : Nat} {nm : ByteArray} {z : ZoT} (h : fiZ zs nm = some z) : res zs ls (n + 1) nm = .zone z := by rw [res, h]
theorem res_none {zs : List ZoT} {ls : List LkT} {n : Nat} {nm : ByteArray} (h : fiZ zs nm = none) (g : fiL ls nm = none) : res zs ls (n + 1) nm = .none := by rw [res, h, g]
theorem res_next {zs : List ZoT} {ls : List LkT} {n : Nat} {nm : ByteArray} {x : LkT} (h : fiZ zs nm = none) (g : fiL ls nm = some x) : res zs ls (n + 1) nm = res zs ls n x.2 := by rw [res, h, g]
def Chn (zs : List ZoT) (ls : List LkT) : List ByteArray → ByteArray → Prop
 | [], _ => True
 | a :: l, z => fiZ zs a = none ∧ (∃ x, fiL ls a = some x ∧ x.2 = (l.head?.getD z)) ∧ Chn zs ls l z
theorem Chn.run {zs : List ZoT} {ls : List LkT} {nm : ByteArray} : ∀ {l : List ByteArray} {a : ByteArray} (n : Nat), Chn zs ls (a :: l) nm → n ≤ l.length → res zs ls n a = .loop
 | _, _, 0, _, _ => rfl
 | [], a, n + 1, _, hn => by simp at hn
 | b :: l, a, n + 1, hc, hn => by
  obtain ⟨h1, ⟨y, h2, h3⟩, h4⟩ := hc
  rw [res_next h1 h2, h3]
  exact Chn.run n h4 (by simp at hn; omega)
theorem Chn.all {zs : List ZoT} {ls : List LkT} {nm : ByteArray} : ∀ {l : List ByteArray} (n : Nat) {a : ByteArray}, Chn zs ls (a :: l) nm → l.length < n → res zs ls n a = res zs ls (n - l.length - 1) nm
 | [], n, a, hc, hn => by
  obtain ⟨h1, ⟨y, h2, h3⟩, _⟩ := hc
  obtain ⟨m, rfl⟩ : ∃ m, n = m + 1 := ⟨n - 1, by simp at hn; omega⟩
  rw [res_next h1 h2, h3]; rfl
 | b :: l, n, a, hc, hn => by
  obtain ⟨h1, ⟨y, h2, h3⟩, h4⟩ := hc
  obtain ⟨m, rfl⟩ : ∃ m, n = m + 1 := ⟨n - 1, by simp at hn; omega⟩
  rw [res_next h1 h2, h3]
  show res zs ls m b = _
  rw [Chn.all m h4 (by simp at hn; omega)]
  congr 1; simp
theorem Chn.tail {zs : List ZoT} {ls : List LkT} {nm : ByteArray} : ∀ {l : List ByteArray} {a : ByteArray}, Chn zs ls l nm → a ∈ l → ∃ r, Chn zs ls (a :: r) nm
 | b :: l, a, hc, hm => by
  rcases List.mem_cons.1 hm with rfl | hm
  ·exact ⟨l, hc⟩
  ·exact Chn.tail hc.2.2 hm
theorem Chn.loop {zs : List ZoT} {ls : List LkT} {nm : ByteArray} {l : List ByteArray} (hc : Chn zs ls l nm) (hm : nm ∈ l) : ∀ n, res zs ls n nm = .loop := by
 obtain ⟨r, hr⟩ := hc.tail hm
 intro n
 induction n using Nat.strongRecOn with
 | ind n ih =>
  by_cases hn : n ≤ r.length
  ·exact Chn.run n hr hn
  ·rw [Chn.all n hr (by omega)]; exact ih _ (by omega)
theorem find_any {α : Type} {p : α → Bool} : ∀ {l : List α}, (l.find? p).isSome = l.any p
 | [] => rfl
 | a :: l => by
  rw [List.find?_cons, List.any_cons]
  cases h : p a with
  | true => rfl
  | false => rw [Bool.false_or]; exact find_any
theorem idx_find {α : Type} {p : α → Bool} : ∀ {l : List α} {x : α} (b : Nat), l.find? p = some x → ∃ k : Nat, ∃ hk : k < l.length, idxOfF p l b = ((b + k : Nat) : Int) ∧ l[k] = x
 | a :: l, x, b, h => by
  rw [List.find?_cons] at h
  rw [idxOfF]
  cases hp : p a with
  | true => rw [hp] at h; cases h; exact ⟨0, by simp, by rw [if_pos rfl]; rfl, rfl⟩
  | false =>
   rw [hp] at h
   obtain ⟨k, hk, h1, h2⟩ := idx_find (b + 1) h
   exact ⟨k + 1, by simp; omega, by rw [if_neg (by decide), h1]; congr 1; omega, h2⟩
abbrev MD := DataW Value
def kL (s : ByteArray) : Lit := .string s.data.toList
theorem kL_key (a : ByteArray) : WideAt.IsKeyLit (kL a) := trivial
theorem kL_inj {a b : ByteArray} (h : kL a = kL b) : a = b := by
 unfold kL at h; injection h with h
 exact ByteArray.ext (Array.toList_inj.1 h)
def putOne (D : MD) (x : ByteArray × Value) : MD := D.put (kL x.1) (.held x.2)
def mapOf (l : List (ByteArray × Value)) : MD := l.foldl putOne (.map [])
theorem mapOf_snoc (l : List (ByteArray × Value)) (x : ByteArray × Value) : mapOf (l ++ [x]) = (mapOf l).put (kL x.1) (.held x.2) := by rw [mapOf, List.foldl_append]; rfl
theorem at_fold {nm : ByteArray} {z : MD} : ∀ (l : List (ByteArray × Value)) (D : MD), Maps.IsMap D → l.Pairwise (fun a b => a.1 ≠ b.1) →
  (l.foldl putOne D).atKey (kL nm) z = match l.find? (fun x => sEq x.1 nm) with | some x => .held x.2 | none => D.atKey (kL nm) z
 | [], _, _, _ => rfl
 | x :: l, D, hD, hp => by
  obtain ⟨h1, h2⟩ := List.pairwise_cons.1 hp
  rw [List.foldl_cons, at_fold l (putOne D x) (hD.put _ _) h2, List.find?_cons]
  cases hs : sEq x.1 nm with
  | true =>
   have hn : l.find? (fun x => sEq x.1 nm) = none := by
    rw [List.find?_eq_none]
    intro y hy e
    exact h1 y hy ((sEq_iff.1 hs).trans (sEq_iff.1 e).symm)
   rw [hn]
   have e : kL nm = kL x.1 := by rw [sEq_iff.1 hs]
   rw [e]
   exact Maps.atKey_put_same hD (kL_key _) _ _
  | false =>
   have hne : kL nm ≠ kL x.1 := fun e => by rw [kL_inj e, sEq_iff.2 rfl] at hs; cases hs
   rw [putOne, Maps.atKey_put_other hne]
theorem mapOf_at {nm : ByteArray} {z : MD} {l : List (ByteArray × Value)} (h : l.Pairwise (fun a b => a.1 ≠ b.1)) :
  (mapOf l).atKey (kL nm) z = match l.find? (fun x => sEq x.1 nm) with | some x => .held x.2 | none => z := by
 rw [mapOf, at_fold l _ Maps.isMap_empty h]
 cases l.find? (fun x => sEq x.1 nm) <;> rfl
theorem has_foldM {nm : ByteArray} : ∀ (l : List (ByteArray × Value)) (D : MD), Maps.IsMap D → Maps.has (l.foldl putOne D) (kL nm) = (Maps.has D (kL nm) || l.any fun x => sEq x.1 nm)
 | [], _, _ => by simp
 | x :: l, D, hD => by
  rw [List.foldl_cons, has_foldM l (putOne D x) (hD.put _ _), List.any_cons, putOne]
  cases hs : sEq x.1 nm with
  | true =>
   have e : kL nm = kL x.1 := by rw [sEq_iff.1 hs]
   rw [e, Maps.has_put_same hD (kL_key _)]; simp
  | false =>
   have hne : kL nm ≠ kL x.1 := fun e => by rw [kL_inj e, sEq_iff.2 rfl] at hs; cases hs
   rw [Maps.has_put_other hne]; simp
theorem mapOf_has {nm : ByteArray} {l : List (ByteArray × Value)} : Maps.has (mapOf l) (kL nm) = l.any fun x => sEq x.1 nm := by
 rw [mapOf, has_foldM l _ Maps.isMap_empty]; rfl
theorem size_foldM : ∀ (l : List (ByteArray × Value)) (D : MD), Maps.Tidy D → l.Pairwise (fun a b => a.1 ≠ b.1) → (∀ x ∈ l, Maps.has D (kL x.1) = false) → Maps.size (l.foldl putOne D) = Maps.size D + l.length
 | [], _, _, _, _ => rfl
 | x :: l, D, hD, hp, hh => by
  obtain ⟨h1, h2⟩ := List.pairwise_cons.1 hp
  rw [List.foldl_cons, size_foldM l (putOne D x) (hD.put (kL_key _) _) h2 (fun y hy => by
   rw [putOne, Maps.has_put_other (fun e => h1 y hy (kL_inj e).symm)]; exact hh y (by simp [hy]))]
  rw [putOne, Maps.size_put hD, hh x (by simp)]
  simp; omega
theorem mapOf_size {l : List (ByteArray × Value)} (h : l.Pairwise (fun a b => a.1 ≠ b.1)) : Maps.size (mapOf l) = l.length := by
 rw [mapOf, size_foldM l _ Maps.tidy_empty h (fun _ _ => rfl)]; simp [Maps.size]
def RH (v : Value) : Option (MD × List MemPlace) := some (.held v, [])
def zoV (z : ZoT) : Value := .agg #[.string z.name, .slice z.A z.eras.length z.cap]
def zPr (zs : List ZoT) : List (ByteArray × Value) := zs.map fun z => (z.name, zoV z)
def lPr (ls : List LkT) : List (ByteArray × Value) := ls.map fun x => (x.1, .string x.2)
theorem zPr_find {zs : List ZoT} {nm : ByteArray} : (zPr zs).find? (fun x => sEq x.1 nm) = (fiZ zs nm).map fun z => (z.name, zoV z) := by rw [zPr, List.find?_map]; rfl
theorem lPr_find {ls : List LkT} {nm : ByteArray} : (lPr ls).find? (fun x => sEq x.1 nm) = (fiL ls nm).map fun x => (x.1, .string x.2) := by rw [lPr, List.find?_map]; rfl
theorem zPr_any {zs : List ZoT} {nm : ByteArray} : ((zPr zs).any fun x => sEq x.1 nm) = (fiZ zs nm).isSome := by rw [zPr, List.any_map, fiZ, find_any]; rfl
theorem lPr_any {ls : List LkT} {nm : ByteArray} : ((lPr ls).any fun x => sEq x.1 nm) = (fiL ls nm).isSome := by rw [lPr, List.any_map, fiL, find_any]; rfl
theorem zPr_pair {zs : List ZoT} (h : zs.Pairwise (fun a b => a.name ≠ b.name)) : (zPr zs).Pairwise (fun a b => a.1 ≠ b.1) := by rw [zPr, List.pairwise_map]; exact h
theorem lPr_pair {ls : List LkT} (h : ls.Pairwise (fun a b => a.1 ≠ b.1)) : (lPr ls).Pairwise (fun a b => a.1 ≠ b.1) := by rw [lPr, List.pairwise_map]; exact h
end Go.Proofs.YthppifcggmdmoaaGreatDoor
namespace Go.Proofs.YthppifcggmdmoaaGreatDoor
open Go.RowKit Go.Maps
set_option linter.unusedVariables false
set_option linter.unusedSimpArgs false
attribute [local go_sem ↓] Go.wp_at_zero Go.wp_at_succ
theorem keyS : Keyed Tryz.prog 9 := string_keyed Tryz.underlying9
theorem own_map_step {H : Type} {P : Program} {k : TypeId} {R : Value → Option (DataW H × List MemPlace)} {b n : Nat} {D : DataW H} {w w' : World} (h : w.ownsMap P k R b n D) {B : Nat} (hb : Below B w w') (hB : b < B) : w'.ownsMap P k R b n D := by
 obtain ⟨es, clock, h1, r⟩ := h
 exact ⟨es, clock, (hb.block b hB).trans h1, r⟩
def PlAt (w : World) (g bz bl nz nl : Nat) (zs : List ZoT) (ls : List LkT) : Prop :=
 (∀ i, w.cell? ⟨g, i, none⟩ = (#[.map (some bz), .map (some bl)] : Array Value)[i]?) ∧ g < w.heap.size ∧ w.ownsMap Tryz.prog 9 RH bz nz (mapOf (zPr zs)) ∧ w.ownsMap Tryz.prog 9 RH bl nl (mapOf (lPr ls))
theorem PlAt.step {w w' : World} {g bz bl nz nl : Nat} {zs : List ZoT} {ls : List LkT} (h : PlAt w g bz bl nz nl zs ls) (hb : Below w.heap.size w w') : PlAt w' g bz bl nz nl zs ls :=
 ⟨fun i => (hb.cell (p := ⟨g, i, none⟩) h.2.1).trans (h.1 i), Nat.lt_of_lt_of_le h.2.1 hb.size, own_map_step h.2.2.1 hb h.2.2.1.lt, own_map_step h.2.2.2 hb h.2.2.2.lt⟩
theorem PlAt.mono {w : World} {g bz bl nz nl nz' nl' : Nat} {zs : List ZoT} {ls : List LkT} (h : PlAt w g bz bl nz nl zs ls) (h1 : nz ≤ nz') (h2 : nl ≤ nl') : PlAt w g bz bl nz' nl' zs ls :=
 ⟨h.1, h.2.1, h.2.2.1.mono h1, h.2.2.2.mono h2⟩
theorem PlAt.made (w : World) (t : TypeId) : PlAt (((w.alloc (.map #[] 0)).alloc (.map #[] 0)).alloc (.cells #[.map (some w.heap.size), .map (some (w.heap.size + 1))] t)) (w.heap.size + 1 + 1) w.heap.size (w.heap.size + 1) 0 0 [] [] := by
 have e1 : (w.alloc (.map #[] 0)).heap.size = w.heap.size + 1 := by rw [size_alloc]
 have e2 : ((w.alloc (.map #[] 0)).alloc (.map #[] 0)).heap.size = w.heap.size + 2 := by rw [size_alloc, e1]
 refine ⟨fun i => cell_new _ _ _ _ _ (by rw [e2]), by rw [size_alloc, e2]; omega, ((World.ownsMap_made w _ _ _).alloc _).alloc _, ?_⟩
 have := World.ownsMap_made (H := Value) (w.alloc (.map #[] 0)) Tryz.prog 9 RH
 rw [e1] at this
 exact this.alloc _
theorem below_map {base : Nat} {w w' : World} {b : Nat} (hb : base ≤ b) (hz : base ≤ w.heap.size) (hg : w.grownBy w' (some b)) : Below base w w' :=
 (Below.refl base w).grown hg hz (fun j hj => by cases hj; exact hb)
theorem cell_grown {w w' : World} {row : Option Nat} (hg : w.grownBy w' row) {a : Addr} (h : a.block < w.heap.size) (hne : some a.block ≠ row) : w'.cell? a = w.cell? a := by
 unfold World.cell?; rw [hg.block _ h hne]
theorem PlAt.putZ {V w9 : World} {g bz bl nz nl : Nat} {zs : List ZoT} {ls : List LkT} {x : ZoT} (h : PlAt V g bz bl nz nl zs ls) (hg : V.grownBy w9 (some bz)) (ho : w9.ownsMap Tryz.prog 9 RH bz (nz + 1) ((mapOf (zPr zs)).put (.string x.name.data.toList) (.held (zoV x)))) (h1 : g ≠ bz) (h2 : bl ≠ bz) :
  PlAt w9 g bz bl (nz + 1) nl (zs ++ [x]) ls := by
 refine ⟨fun i => (cell_grown hg h.2.1 (by simpa using h1)).trans (h.1 i), Nat.lt_of_lt_of_le h.2.1 hg.size, ?_, h.2.2.2.kept hg (by simpa using h2)⟩
 have e : zPr (zs ++ [x]) = zPr zs ++ [(x.name, zoV x)] := by simp [zPr]
 rw [e, mapOf_snoc]; exact ho
theorem PlAt.putL {V w9 : World} {g bz bl nz nl : Nat} {zs : List ZoT} {ls : List LkT} {x : LkT} (h : PlAt V g bz bl nz nl zs ls) (hg : V.grownBy w9 (some bl)) (ho : w9.ownsMap Tryz.prog 9 RH bl (nl + 1) ((mapOf (lPr ls)).put (.string x.1.data.toList) (.held (.string x.2)))) (h1 : g ≠ bl) (h2 : bz ≠ bl) :
  PlAt w9 g bz bl nz (nl + 1) zs (ls ++ [x]) := by
 refine ⟨fun i => (cell_grown hg h.2.1 (by simpa using h1)).trans (h.1 i), Nat.lt_of_lt_of_le h.2.1 hg.size, h.2.2.1.kept hg (by simpa using h2), ?_⟩
 have e : lPr (ls ++ [x]) = lPr ls ++ [(x.1, .string x.2)] := by simp [lPr]
 rw [e, mapOf_snoc]; exact ho
set_option maxRecDepth 100000 in
set_option maxHeartbeats 8000000 in
theorem n_of_ok' (AR AZ AL : Option Addr) (cR cZ cL : Nat) (rs : List RuT) (zs : List ZoT) (ls : List LkT) (w : World) (H : BkOk w w.heap.size ⟨AR, AZ, AL, cR, cZ, cL, rs, zs, ls⟩) (HI : EraIn w) (h : bookE rs zs ls = 0) :
  Calls Tryz.prog 75 #[.agg #[.slice AR rs.length cR, .slice AZ zs.length cZ, .slice AL ls.length cL]] w
   fun e w' => ∃ g bz bl, e = .returned (.tuple #[.pointer (some ⟨g, 0, none⟩), .int .i64 0]) ∧ Below w.heap.size w w' ∧ PlAt w' g bz bl 20 20 zs ls := by
 have h3 := H.hZ
 have h4 := H.mZ
 have h5 := H.hL
 have h6 := H.mL
 simp only at h3 h4 h5 h6
 unfold maxLen at h4 h6
 have X1 := TK.box w #[.slice AR rs.length cR, .slice AZ zs.length cZ, .slice AL ls.length cL] 26
 have HC := Lib.hid (c_Check' AR AZ AL cR cZ cL rs zs ls (w.alloc (.cells #[.slice AR rs.length cR, .slice AZ zs.length cZ, .slice AL ls.length cL] 26)) (H.step X1.2.2) (HI.on X1.2.2))
 rw [h] at HC
 have hcs := X1.1
 have hcz := X1.2.1
 have HB0 := Lib.hid X1.2.2
 have HH := Lib.hid H
 have hz20 : zs.length ≤ 20 ∧ ls.length ≤ 20 := (bookE_inv h).1.2
 clear X1 H HI h
 have hmm := @run_makeMap Tryz.prog
 go_enter Tryz.func75, Tryz.ntmps75
 go_wp2_with fail
 refine HC.out.mono ?_
 rintro e w1 ⟨rfl, hb1⟩
 have hc1 := fun i => (hb1.cell (p := ⟨w.heap.size, i, none⟩) hcz).trans (hcs i)
 have hz1 := Nat.lt_of_lt_of_le hcz hb1.size
 have HB1 := Lib.hid (HB0.out.trans (hb1.mono HB0.out.size))
 clear hcs hcz hb1 HB0 HC
 have HP := Lib.hid (PlAt.made w1 180)
 have HB2 := Lib.hid (show Below w1.heap.size w1 (((w1.alloc (.map #[] 0)).alloc (.map #[] 0)).alloc (.cells #[.map (some w1.heap.size), .map (some (w1.heap.size + 1))] 180)) from (by repeat (first | exact Below.refl _ _ | assumption | apply Below.drew | apply below_drewN | (refine Below.alloc ?_ (by simp; try omega) _) | (refine Below.setCell ?_ (by simp; try omega) _))))
 go_upto_region 5 with fail
 obtain ⟨B, hB⟩ : ∃ B, w1.heap.size = B := ⟨_, rfl⟩
 rw [hB] at HP HB2 hz1 ⊢
 obtain ⟨W, hW⟩ : ∃ W, ((w1.alloc (.map #[] 0)).alloc (.map #[] 0)).alloc (.cells #[.map (some B), .map (some (B + 1))] 180) = W := ⟨_, rfl⟩
 rw [hW] at HP HB2 ⊢
 have hc2 := fun i => (HB2.out.cell (p := ⟨w.heap.size, i, none⟩) hz1).trans (hc1 i)
 have hz2 := Nat.lt_of_lt_of_le (hB ▸ hz1) HB2.out.size
 have hw1 : w1.heap.size = B := hB
 have hz1 : w.heap.size < B := hz1
 clear hW hB
 go_wp2_with fail
 obtain ⟨g, hg⟩ : ∃ g, B + 1 + 1 = g := ⟨_, rfl⟩
 rw [hg] at HP ⊢
 go_loopw [22] (fun i wr => ∃ k : Nat, k ≤ zs.length ∧ i = .int .i64 k ∧ Hid (PlAt wr g B (B + 1) k 0 (zs.take k) []) ∧ Below B w1 wr) (fun i _ => zs.length - (intOf i).toNat)
 case atStart => exact ⟨0, Nat.zero_le _, rfl, HP, HB2.out⟩
 case round =>
  clear HP HB2 hc2 hz2
  obtain ⟨k, hk, rfl, HP, hB⟩ := hrel
  by_cases hlt : k < zs.length
  ·have hbz := HB1.out.trans (hB.mono (Nat.le_trans HB1.out.size (Nat.le_of_eq hw1)))
   have HS := Lib.hid (HH.out.Z.below hbz)
   obtain ⟨b, o, rfl, hb, c0, c1⟩ := zo_at (show SlAt wr w.heap.size 2 AZ (zs.map zoC) from HS.out) hlt
   have hi1 : (0 : Int) ≤ (k : Int) := by omega
   have hi2 : (k : Int) < (zs.length : Int) := by omega
   have hi3 : (k : Int) ≤ (cZ : Int) := by omega
   have hBs : B ≤ wr.heap.size := hw1 ▸ hB.size
   have hgz := HP.out.2.1
   have hb' : b < wr.heap.size := by omega
   have hsz := (HH.out.zs _ (List.getElem_mem hlt)).1
   have HT := Lib.hid (show zs.take (k + 1) = zs.take k ++ [zs[k]] from List.take_succ_eq_append_getElem hlt)
   obtain ⟨x, hx⟩ : ∃ x, zs[k] = x := ⟨_, rfl⟩
   rw [hx] at c0 c1 hsz HT
   clear hx hbz HS
   have X2 := TK.box wr #[.string x.name, .slice x.A x.eras.length x.cap] 75
   have HV := Lib.hid (HP.out.step X2.2.2)
   have HBV := Lib.hid (hB.trans (X2.2.2.mono hBs))
   have hBV : B ≤ (wr.alloc (.cells #[.string x.name, .slice x.A x.eras.length x.cap] 75)).heap.size := Nat.le_trans hBs X2.2.2.size
   have fz := X2.1
   have fzl := X2.2.1
   clear HP hB X2
   go_upto_region 8 with fail
   obtain ⟨V, hV⟩ : ∃ V, wr.alloc (.cells #[.string x.name, .slice x.A x.eras.length x.cap] 75) = V := ⟨_, rfl⟩
   rw [hV] at HV HBV hBV fz fzl ⊢
   clear hV c0 c1
   have fg := HV.out.1
   have fgl := HV.out.2.1
   have hgB : g ≠ B ∧ g ≠ B + 1 := by omega
   have hrB : wr.heap.size ≠ B ∧ wr.heap.size ≠ B + 1 := by omega
   have hS := Lib.hid (show (∀ i, V.drew.cell? ⟨wr.heap.size, i, none⟩ = (#[.string x.name, .slice x.A x.eras.length x.cap] : Array Value)[i]?) ∧ (∀ i, V.drew.cell? ⟨g, i, none⟩ = (#[.map (some B), .map (some (B + 1))] : Array Value)[i]?) ∧ Below B w1 V.drew from ⟨fz, fg, HBV.out.drew⟩)
   have HD := Lib.hid (show PlAt V.drew g B (B + 1) k 0 (zs.take k) [] from HV.out)
   clear HV HBV
   refine wp_region_noPanic ?_
   refine wp_region_held_drew (S := fun W' : World => (∀ i, W'.cell? ⟨wr.heap.size, i, none⟩ = (#[.string x.name, .slice x.A x.eras.length x.cap] : Array Value)[i]?) ∧ (∀ i, W'.cell? ⟨g, i, none⟩ = (#[.map (some B), .map (some (B + 1))] : Array Value)[i]?) ∧ Below B w1 W') (by kernel_rfl) hS.out (fun hHeld0 => ?_)
   have hHeld := hHeld0
   clear hHeld0
   refine wpAnyH_take (i := 0) (v := ?_) rfl (by kernel_rfl) (by kernel_rfl) (by kernel_rfl) (fun _ _ _ h => h) (Or.inl ⟨by rfl, ?_⟩) hHeld ?_
   rotate_left
   ·intro wq hSw
    have qz := hSw.1
    have qg := hSw.2.1
    go_simp
    try with_reducible rfl
   try simp only [Act.put, List.getElem_toArray, List.getElem_cons_succ, List.getElem_cons_zero, List.setIfInBounds_toArray, List.set_cons_zero, List.set_cons_succ]
   refine wpAnyH_take (i := 1) (v := ?_) rfl (by kernel_rfl) (by kernel_rfl) (by kernel_rfl) (fun _ _ _ h => h) (Or.inl ⟨by rfl, ?_⟩) hHeld ?_
   rotate_left
   ·intro wq hSw
    have qz := hSw.1
    have qg := hSw.2.1
    go_simp
    try with_reducible rfl
   try simp only [Act.put, List.getElem_toArray, List.getElem_cons_succ, List.getElem_cons_zero, List.setIfInBounds_toArray, List.set_cons_zero, List.set_cons_succ]
   refine wpAnyH_take (i := 2) (v := ?_) rfl (by kernel_rfl) (by kernel_rfl) (by kernel_rfl) (fun _ _ _ h => h) (Or.inl ⟨by rfl, ?_⟩) hHeld ?_
   rotate_left
   ·intro wq hSw
    have qz := hSw.1
    have qg := hSw.2.1
    go_simp
    try with_reducible rfl
   try simp only [Act.put, List.getElem_toArray, List.getElem_cons_succ, List.getElem_cons_zero, List.setIfInBounds_toArray, List.set_cons_zero, List.set_cons_succ]
   refine wpAnyH_take (i := 3) (v := ?_) rfl (by kernel_rfl) (by kernel_rfl) (by kernel_rfl) (fun _ _ _ h => h) (Or.inl ⟨by rfl, ?_⟩) hHeld ?_
   rotate_left
   ·intro wq hSw
    have qz := hSw.1
    have qg := hSw.2.1
    go_simp
    try with_reducible rfl
   try simp only [Act.put, List.getElem_toArray, List.getElem_cons_succ, List.getElem_cons_zero, List.setIfInBounds_toArray, List.set_cons_zero, List.set_cons_succ]
   refine wpAnyH_take (i := 4) (v := ?_) rfl (by kernel_rfl) (by kernel_rfl) (by kernel_rfl) (fun _ _ _ h => h) (Or.inl ⟨by rfl, ?_⟩) hHeld ?_
   rotate_left
   ·intro wq hSw
    have qz := hSw.1
    have qg := hSw.2.1
    go_simp
    try with_reducible rfl
   try simp only [Act.put, List.getElem_toArray, List.getElem_cons_succ, List.getElem_cons_zero, List.setIfInBounds_toArray, List.set_cons_zero, List.set_cons_succ]
   refine wpAnyH_take (i := 5) (v := ?_) rfl (by kernel_rfl) (by kernel_rfl) (by kernel_rfl) (fun _ _ _ h => h) (Or.inl ⟨by rfl, ?_⟩) hHeld ?_
   rotate_left
   ·intro wq hSw
    have qz := hSw.1
    have qg := hSw.2.1
    go_simp
    try with_reducible rfl
   try simp only [Act.put, List.getElem_toArray, List.getElem_cons_succ, List.getElem_cons_zero, List.setIfInBounds_toArray, List.set_cons_zero, List.set_cons_succ]
   refine wpAnyH_take (i := 6) (v := ?_) rfl (by kernel_rfl) (by kernel_rfl) (by kernel_rfl) (fun _ _ _ h => h) (Or.inl ⟨by rfl, ?_⟩) hHeld ?_
   rotate_left
   ·intro wq hSw
    have qz := hSw.1
    have qg := hSw.2.1
    go_simp
    try with_reducible rfl
   try simp only [Act.put, List.getElem_toArray, List.getElem_cons_succ, List.getElem_cons_zero, List.setIfInBounds_toArray, List.set_cons_zero, List.set_cons_succ]
   obtain ⟨w9, hrun, hown, hgrow⟩ := HD.out.2.2.1.update keyS Tryz.underlying177 (by unfold maxLen; omega) (WideMaps.keyOf_string_mk Tryz.underlying9 hsz) (show RH (zoV x) = some (.held (zoV x), []) from rfl)
   refine wpAnyH_ready (rs := [7]) (by kernel_rfl) (by simp) ?_
   refine AllReadyH.cons rfl (fun K hK => ?_) AllReadyH.nil
   go_simp
   rw [show (.agg #[.string x.name, .slice x.A x.eras.length x.cap] : Value) = zoV x from rfl]
   try simp only [hrun]
   try go_simp
   have HP9 := Lib.hid (HD.out.putZ hgrow hown (by omega) (by omega))
   rw [← HT.out] at HP9
   refine hK.out _ _ ⟨fun i => (cell_grown hgrow (a := ⟨wr.heap.size, i, none⟩) fzl (by simp; omega)).trans (fz i), fun i => (cell_grown hgrow (a := ⟨g, i, none⟩) fgl (by simp; omega)).trans (fg i), hS.out.2.2.trans (below_map (by omega) hBV hgrow)⟩ (fun hHeld2 => ?_)
   clear hK K hHeld
   try simp only [Act.put, List.getElem_toArray, List.getElem_cons_succ, List.getElem_cons_zero, List.setIfInBounds_toArray, List.set_cons_zero, List.set_cons_succ]
   refine wpAnyH_done (by kernel_rfl) ?_ _
   refine NoPanic.normal ?_
   go_wp2_with fail
   exact ⟨⟨k + 1, by omega, by go_num, HP9, hHeld2.2.2⟩, by simp [intOf]; omega⟩
  ·obtain rfl : k = zs.length := by omega
   rw [List.take_length] at HP
   have hBs : B ≤ wr.heap.size := hw1 ▸ hB.size
   have hbw := fun i => (hB.cell (p := ⟨w.heap.size, i, none⟩) hz1).trans (hc1 i)
   go_wp2_with fail
   clear hbw
   go_loopw [37] (fun i wr => ∃ k : Nat, k ≤ ls.length ∧ i = .int .i64 k ∧ Hid (PlAt wr g B (B + 1) zs.length k zs (ls.take k)) ∧ Below B w1 wr) (fun i _ => ls.length - (intOf i).toNat)
   case atStart => exact ⟨0, Nat.zero_le _, rfl, HP, hB⟩
   case round =>
    clear HP hB hBs
    obtain ⟨k, hk, rfl, HP, hB⟩ := hrel
    by_cases hlt : k < ls.length
    ·have hbz := HB1.out.trans (hB.mono (Nat.le_trans HB1.out.size (Nat.le_of_eq hw1)))
     have HS := Lib.hid (HH.out.L.below hbz)
     obtain ⟨b, o, rfl, hb, c0, c1⟩ := lk_at (show SlAt wr w.heap.size 2 AL (ls.map lkC) from HS.out) hlt
     have hi1 : (0 : Int) ≤ (k : Int) := by omega
     have hi2 : (k : Int) < (ls.length : Int) := by omega
     have hi3 : (k : Int) ≤ (cL : Int) := by omega
     have hBs : B ≤ wr.heap.size := hw1 ▸ hB.size
     have hgz := HP.out.2.1
     have hb' : b < wr.heap.size := by omega
     have hsz := (HH.out.ls _ (List.getElem_mem hlt)).1
     have HT := Lib.hid (show ls.take (k + 1) = ls.take k ++ [ls[k]] from List.take_succ_eq_append_getElem hlt)
     obtain ⟨x, hx⟩ : ∃ x, ls[k] = x := ⟨_, rfl⟩
     rw [hx] at c0 c1 hsz HT
     clear hx hbz HS
     have X2 := TK.box wr #[.string x.1, .string x.2] 77
     have HV := Lib.hid (HP.out.step X2.2.2)
     have HBV := Lib.hid (hB.trans (X2.2.2.mono hBs))
     have hBV : B ≤ (wr.alloc (.cells #[.string x.1, .string x.2] 77)).heap.size := Nat.le_trans hBs X2.2.2.size
     have fz := X2.1
     have fzl := X2.2.1
     clear HP hB X2
     go_upto_region 13 with fail
     obtain ⟨V, hV⟩ : ∃ V, wr.alloc (.cells #[.string x.1, .string x.2] 77) = V := ⟨_, rfl⟩
     rw [hV] at HV HBV hBV fz fzl ⊢
     clear hV c0 c1
     have fg := HV.out.1
     have fgl := HV.out.2.1
     have hgB : g ≠ B ∧ g ≠ B + 1 := by omega
     have hrB : wr.heap.size ≠ B ∧ wr.heap.size ≠ B + 1 := by omega
     have hS := Lib.hid (show (∀ i, V.drew.cell? ⟨wr.heap.size, i, none⟩ = (#[.string x.1, .string x.2] : Array Value)[i]?) ∧ (∀ i, V.drew.cell? ⟨g, i, none⟩ = (#[.map (some B), .map (some (B + 1))] : Array Value)[i]?) ∧ Below B w1 V.drew from ⟨fz, fg, HBV.out.drew⟩)
     have HD := Lib.hid (show PlAt V.drew g B (B + 1) zs.length k zs (ls.take k) from HV.out)
     clear HV HBV
     refine wp_region_noPanic ?_
     refine wp_region_held_drew (S := fun W' : World => (∀ i, W'.cell? ⟨wr.heap.size, i, none⟩ = (#[.string x.1, .string x.2] : Array Value)[i]?) ∧ (∀ i, W'.cell? ⟨g, i, none⟩ = (#[.map (some B), .map (some (B + 1))] : Array Value)[i]?) ∧ Below B w1 W') (by kernel_rfl) hS.out (fun hHeld0 => ?_)
     have hHeld := hHeld0
     clear hHeld0
     refine wpAnyH_take (i := 0) (v := ?_) rfl (by kernel_rfl) (by kernel_rfl) (by kernel_rfl) (fun _ _ _ h => h) (Or.inl ⟨by rfl, ?_⟩) hHeld ?_
     rotate_left
     ·intro wq hSw
      have qz := hSw.1
      have qg := hSw.2.1
      go_simp
      try with_reducible rfl
     try simp only [Act.put, List.getElem_toArray, List.getElem_cons_succ, List.getElem_cons_zero, List.setIfInBounds_toArray, List.set_cons_zero, List.set_cons_succ]
     refine wpAnyH_take (i := 1) (v := ?_) rfl (by kernel_rfl) (by kernel_rfl) (by kernel_rfl) (fun _ _ _ h => h) (Or.inl ⟨by rfl, ?_⟩) hHeld ?_
     rotate_left
     ·intro wq hSw
      have qz := hSw.1
      have qg := hSw.2.1
      go_simp
      try with_reducible rfl
     try simp only [Act.put, List.getElem_toArray, List.getElem_cons_succ, List.getElem_cons_zero, List.setIfInBounds_toArray, List.set_cons_zero, List.set_cons_succ]
     refine wpAnyH_take (i := 2) (v := ?_) rfl (by kernel_rfl) (by kernel_rfl) (by kernel_rfl) (fun _ _ _ h => h) (Or.inl ⟨by rfl, ?_⟩) hHeld ?_
     rotate_left
     ·intro wq hSw
      have qz := hSw.1
      have qg := hSw.2.1
      go_simp
      try with_reducible rfl
     try simp only [Act.put, List.getElem_toArray, List.getElem_cons_succ, List.getElem_cons_zero, List.setIfInBounds_toArray, List.set_cons_zero, List.set_cons_succ]
     refine wpAnyH_take (i := 3) (v := ?_) rfl (by kernel_rfl) (by kernel_rfl) (by kernel_rfl) (fun _ _ _ h => h) (Or.inl ⟨by rfl, ?_⟩) hHeld ?_
     rotate_left
     ·intro wq hSw
      have qz := hSw.1
      have qg := hSw.2.1
      go_simp
      try with_reducible rfl
     try simp only [Act.put, List.getElem_toArray, List.getElem_cons_succ, List.getElem_cons_zero, List.setIfInBounds_toArray, List.set_cons_zero, List.set_cons_succ]
     refine wpAnyH_take (i := 4) (v := ?_) rfl (by kernel_rfl) (by kernel_rfl) (by kernel_rfl) (fun _ _ _ h => h) (Or.inl ⟨by rfl, ?_⟩) hHeld ?_
     rotate_left
     ·intro wq hSw
      have qz := hSw.1
      have qg := hSw.2.1
      go_simp
      try with_reducible rfl
     try simp only [Act.put, List.getElem_toArray, List.getElem_cons_succ, List.getElem_cons_zero, List.setIfInBounds_toArray, List.set_cons_zero, List.set_cons_succ]
     refine wpAnyH_take (i := 5) (v := ?_) rfl (by kernel_rfl) (by kernel_rfl) (by kernel_rfl) (fun _ _ _ h => h) (Or.inl ⟨by rfl, ?_⟩) hHeld ?_
     rotate_left
     ·intro wq hSw
      have qz := hSw.1
      have qg := hSw.2.1
      go_simp
      try with_reducible rfl
     try simp only [Act.put, List.getElem_toArray, List.getElem_cons_succ, List.getElem_cons_zero, List.setIfInBounds_toArray, List.set_cons_zero, List.set_cons_succ]
     refine wpAnyH_take (i := 6) (v := ?_) rfl (by kernel_rfl) (by kernel_rfl) (by kernel_rfl) (fun _ _ _ h => h) (Or.inl ⟨by rfl, ?_⟩) hHeld ?_
     rotate_left
     ·intro wq hSw
      have qz := hSw.1
      have qg := hSw.2.1
      go_simp
      try with_reducible rfl
     try simp only [Act.put, List.getElem_toArray, List.getElem_cons_succ, List.getElem_cons_zero, List.setIfInBounds_toArray, List.set_cons_zero, List.set_cons_succ]
     refine wpAnyH_take (i := 7) (v := ?_) rfl (by kernel_rfl) (by kernel_rfl) (by kernel_rfl) (fun _ _ _ h => h) (Or.inl ⟨by rfl, ?_⟩) hHeld ?_
     rotate_left
     ·intro wq hSw
      have qz := hSw.1
      have qg := hSw.2.1
      go_simp
      try with_reducible rfl
     try simp only [Act.put, List.getElem_toArray, List.getElem_cons_succ, List.getElem_cons_zero, List.setIfInBounds_toArray, List.set_cons_zero, List.set_cons_succ]
     obtain ⟨w9, hrun, hown, hgrow⟩ := HD.out.2.2.2.update keyS Tryz.underlying178 (by unfold maxLen; omega) (WideMaps.keyOf_string_mk Tryz.underlying9 hsz) (show RH (.string x.2) = some (.held (.string x.2), []) from rfl)
     refine wpAnyH_ready (rs := [8]) (by kernel_rfl) (by simp) ?_
     refine AllReadyH.cons rfl (fun K hK => ?_) AllReadyH.nil
     go_simp
     try simp only [hrun]
     try go_simp
     have HP9 := Lib.hid (HD.out.putL hgrow hown (by omega) (by omega))
     rw [← HT.out] at HP9
     refine hK.out _ _ ⟨fun i => (cell_grown hgrow (a := ⟨wr.heap.size, i, none⟩) fzl (by simp; omega)).trans (fz i), fun i => (cell_grown hgrow (a := ⟨g, i, none⟩) fgl (by simp; omega)).trans (fg i), hS.out.2.2.trans (below_map (by omega) hBV hgrow)⟩ (fun hHeld2 => ?_)
     clear hK K hHeld
     try simp only [Act.put, List.getElem_toArray, List.getElem_cons_succ, List.getElem_cons_zero, List.setIfInBounds_toArray, List.set_cons_zero, List.set_cons_succ]
     refine wpAnyH_done (by kernel_rfl) ?_ _
     refine NoPanic.normal ?_
     go_wp2_with fail
     exact ⟨⟨k + 1, by omega, by go_num, HP9, hHeld2.2.2⟩, by simp [intOf]; omega⟩
    ·obtain rfl : k = ls.length := by omega
     rw [List.take_length] at HP
     have hBB := HB1.out.trans (hB.mono (Nat.le_trans HB1.out.size (Nat.le_of_eq hw1)))
     have HP20 := Lib.hid (HP.out.mono hz20.1 hz20.2)
     go_wp2_with fail
     go_ret2
     exact ⟨g, B, B + 1, rfl, hBB, HP20.out⟩
end Go.Proofs.YthppifcggmdmoaaGreatDoor
namespace Go.Proofs.YthppifcggmdmoaaGreatDoor
open Go.RowKit Go.Maps
set_option linter.unusedVariables false
set_option linter.unusedSimpArgs false
attribute [local go_sem ↓] Go.wp_at_zero Go.wp_at_succ
def zo0 : Value := .agg #[.string ⟨#[]⟩, .slice none 0 0]
def rsV : RsT → Value
 | .zone z => .tuple #[zoV z, .int .i64 0]
 | .none => .tuple #[zo0, .int .i64 6]
 | .loop => .tuple #[zo0, .int .i64 8]
theorem zeroZo (w : World) : (zeroValue 75).run Tryz.prog w = .ok (.agg #[.string ⟨#[]⟩, .slice none 0 0]) w := by kernel_rfl
theorem zeroSt (w : World) : (zeroValue 9).run Tryz.prog w = .ok (.string ⟨#[]⟩) w := by kernel_rfl
theorem wpList_look {P : Program} (w : World) {ops : Array Oper} {rest : List Oper} {o : Oper} {a : Act} {Q : Exit → Act → World → Prop} (hg : o.guard = none) (m x : Operand) (t : TypeId) (hop : o.op = Op.lookup t m x true)
  (k e : TypeId) (K : Keyed P k) (ht : P.underlying t = some (.map k e)) {z : Value} (hz : (zeroValue e).run P w = .ok z w) (b n : Nat) (D : MD) (hm : a.eval m = .map (some b)) (hown : w.ownsMap P k RH b n D) (key : Value) (kl : Lit) (hx : a.eval x = key) (hkey : keyOf P k key = some kl)
  (u : Value) (q : Bool) (hu : D.atKey kl (.held z) = .held u) (hq : Maps.has D kl = q) (hK : wpList P ops Q rest (a.put o.dst (.tuple #[u, .bool q])) w) : wpList P ops Q (o :: rest) a w :=
 wpList_lookup_own_ok w hg m x t hop k e K ht RH hz (.held z) [] rfl b n D hm hown key kl hx hkey (fun v ps hv => by
  have e1 : v = u := by
   unfold RH at hv
   simp only [Option.some.injEq, Prod.mk.injEq] at hv
   have h2 := hv.1
   rw [hu] at h2; injection h2
  rw [e1, hq]; exact hK)
section
variable {zs : List ZoT} {ls : List LkT} {nm : ByteArray}
theorem zLook (h : zs.Pairwise (fun a b => a.name ≠ b.name)) {z : ZoT} (hz : fiZ zs nm = some z) : (mapOf (zPr zs)).atKey (.string nm.data.toList) (.held (.agg #[.string ⟨#[]⟩, .slice none 0 0])) = .held (.agg #[.string z.name, .slice z.A z.eras.length z.cap]) ∧ Maps.has (mapOf (zPr zs)) (.string nm.data.toList) = true := by
 have e1 := mapOf_at (nm := nm) (z := .held (.agg #[.string ⟨#[]⟩, .slice none 0 0])) (zPr_pair h)
 have e2 := mapOf_has (nm := nm) (l := zPr zs)
 rw [zPr_find, hz] at e1
 rw [zPr_any, hz] at e2
 exact ⟨e1, e2⟩
theorem zMiss (h : zs.Pairwise (fun a b => a.name ≠ b.name)) (hz : fiZ zs nm = none) : (mapOf (zPr zs)).atKey (.string nm.data.toList) (.held (.agg #[.string ⟨#[]⟩, .slice none 0 0])) = .held (.agg #[.string ⟨#[]⟩, .slice none 0 0]) ∧ Maps.has (mapOf (zPr zs)) (.string nm.data.toList) = false := by
 have e1 := mapOf_at (nm := nm) (z := .held (.agg #[.string ⟨#[]⟩, .slice none 0 0])) (zPr_pair h)
 have e2 := mapOf_has (nm := nm) (l := zPr zs)
 rw [zPr_find, hz] at e1
 rw [zPr_any, hz] at e2
 exact ⟨e1, e2⟩
theorem lLook (h : ls.Pairwise (fun a b => a.1 ≠ b.1)) {x : LkT} (hz : fiL ls nm = some x) : (mapOf (lPr ls)).atKey (.string nm.data.toList) (.held (.string ⟨#[]⟩)) = .held (.string x.2) ∧ Maps.has (mapOf (lPr ls)) (.string nm.data.toList) = true := by
 have e1 := mapOf_at (nm := nm) (z := .held (.string ⟨#[]⟩)) (lPr_pair h)
 have e2 := mapOf_has (nm := nm) (l := lPr ls)
 rw [lPr_find, hz] at e1
 rw [lPr_any, hz] at e2
 exact ⟨e1, e2⟩
theorem lMiss (h : ls.Pairwise (fun a b => a.1 ≠ b.1)) (hz : fiL ls nm = none) : (mapOf (lPr ls)).atKey (.string nm.data.toList) (.held (.string ⟨#[]⟩)) = .held (.string ⟨#[]⟩) ∧ Maps.has (mapOf (lPr ls)) (.string nm.data.toList) = false := by
 have e1 := mapOf_at (nm := nm) (z := .held (.string ⟨#[]⟩)) (lPr_pair h)
 have e2 := mapOf_has (nm := nm) (l := lPr ls)
 rw [lPr_find, hz] at e1
 rw [lPr_any, hz] at e2
 exact ⟨e1, e2⟩
end
theorem blk2 {W : World} {b : Nat} {t : TypeId} {a0 a1 x y : Value} (h : Blk W b t #[a0, a1]) : Blk ((W.setCell ⟨b, 0, none⟩ x).setCell ⟨b, 1, none⟩ y) b t #[x, y] := (h.set 0 x).set 1 y
set_option maxRecDepth 100000 in
set_option maxHeartbeats 4000000 in
theorem n_resolve (g bz bl : Nat) (zs : List ZoT) (ls : List LkT) (nm : ByteArray) (hnm : nm.size ≤ maxLen) (w : World) (H : PlAt w g bz bl 20 20 zs ls) (hzp : zs.Pairwise (fun a b => a.name ≠ b.name)) (hlp : ls.Pairwise (fun a b => a.1 ≠ b.1)) (hl : ls.length ≤ 20) (hls : ∀ x ∈ ls, x.2.size ≤ maxLen) :
  Calls Tryz.prog 76 #[.pointer (some ⟨g, 0, none⟩), .string nm] w fun e w' => e = .returned (rsV (res zs ls (ls.length + 1) nm)) ∧ Below w.heap.size w w' := by
 have hb0 := (Below.refl w.heap.size w).alloc (Nat.le_refl _) (.cells #[.string ⟨#[]⟩, .slice none 0 0] 75)
 have HP := Lib.hid (H.step hb0)
 have fg := HP.out.1
 have fgl := HP.out.2.1
 have HX := Lib.hid (Blk.new w #[.string ⟨#[]⟩, .slice none 0 0] 75)
 have HB := Lib.hid hb0
 have hsz : Maps.size (mapOf (lPr ls)) = ls.length := by rw [mapOf_size (lPr_pair hlp)]; simp [lPr]
 have HZP := Lib.hid hzp
 have HLP := Lib.hid hlp
 have HLS := Lib.hid hls
 have hgw : g ≠ w.heap.size := Nat.ne_of_lt H.2.1
 clear H hzp hlp hls hb0
 go_enter Tryz.func76, Tryz.ntmps76
 go_upto_region 1 with fail
 obtain ⟨W, hW⟩ : ∃ W, w.alloc (.cells #[.string ⟨#[]⟩, .slice none 0 0] 75) = W := ⟨_, rfl⟩
 rw [hW] at HP fg fgl HX HB ⊢
 clear hW
 go_wp2_with (at_len; refine wpList_len_own _ rfl _ 178 rfl 9 9 Tryz.underlying178 RH bl 20 (mapOf (lPr ls)) rfl HP.out.2.2.2 ?_; rw [hsz])
 clear fg fgl
 go_loopw [1, 16] (fun x i wr => ∃ (k : Nat) (name : ByteArray), k ≤ ls.length + 1 ∧ i = .int .i64 k ∧ x = .string name ∧ name.size ≤ maxLen ∧ Hid (res zs ls (ls.length + 1) nm = res zs ls (ls.length + 1 - k) name) ∧ Hid (PlAt wr g bz bl 20 20 zs ls) ∧ Hid (Blk wr w.heap.size 75 #[.string ⟨#[]⟩, .slice none 0 0]) ∧ Hid (Below w.heap.size w wr)) (fun _ i _ => ls.length + 1 - (intOf i).toNat)
 case atStart => exact ⟨0, nm, Nat.zero_le _, rfl, rfl, hnm, Lib.hid rfl, HP, HX, HB⟩
 case round =>
  clear HP HX HB hnm
  obtain ⟨k, name, hk, rfl, rfl, hnm, HR, HP, HX, HB⟩ := hrel
  have fg := HP.out.1
  have fgl := HP.out.2.1
  have fr := HX.out.cell
  have frl := HX.out.lt
  have frz := HX.out.frz
  have hbz := HB.out.size
  by_cases hlt : k < ls.length + 1
  ·have hi2 : (k : Int) < (ls.length : Int) + 1 := by omega
   have e1 : ls.length + 1 - k = (ls.length - k) + 1 := by omega
   cases hz : fiZ zs name with
   | some z =>
    have HE := Lib.hid (show res zs ls (ls.length + 1) nm = .zone z by rw [HR.out, e1, res_zone hz])
    obtain ⟨L1, L2⟩ := zLook HZP.out hz
    have HL := Lib.hid L1
    have HL2 := Lib.hid L2
    have X2 := TK.box wr #[.string z.name, .slice z.A z.eras.length z.cap] 75
    have f2 := X2.1
    have f2l := X2.2.1
    have HX2 := Lib.hid (HX.out.alloc (.cells #[.string z.name, .slice z.A z.eras.length z.cap] 75))
    have HB2 := Lib.hid (HB.out.trans (X2.2.2.mono hbz))
    clear L1 L2 e1 hz X2
    go_upto_region 4 with (at_lookup; refine wpList_look _ rfl _ _ 177 rfl 9 75 keyS Tryz.underlying177 (zeroZo _) bz 20 (mapOf (zPr zs)) rfl HP.out.2.2.1 _ _ rfl (WideMaps.keyOf_string_mk Tryz.underlying9 hnm) _ _ HL.out HL2.out ?_)
    obtain ⟨V, hV⟩ : ∃ V, wr.alloc (.cells #[.string z.name, .slice z.A z.eras.length z.cap] 75) = V := ⟨_, rfl⟩
    rw [hV] at f2 f2l HX2 HB2 ⊢
    clear hV fr frz frl fg fgl HX HP
    have fr := HX2.out.cell
    have frz := HX2.out.frz
    have frl := HX2.out.lt
    have HF := Lib.hid (blk2 HX2.out (x := .string z.name) (y := .slice z.A z.eras.length z.cap))
    have HBF := Lib.hid (show Below w.heap.size w ((V.setCell ⟨w.heap.size, 0, none⟩ (.string z.name)).setCell ⟨w.heap.size, 1, none⟩ (.slice z.A z.eras.length z.cap)) from by have := HB2.out; exact (by repeat (first | exact Below.refl _ _ | assumption | apply Below.drew | apply below_drewN | (refine Below.alloc ?_ (by simp; try omega) _) | (refine Below.setCell ?_ (by simp; try omega) _))))
    go_wp2_with fail
    obtain ⟨U, hU⟩ : ∃ U, ((V.setCell ⟨w.heap.size, 0, none⟩ (.string z.name)).setCell ⟨w.heap.size, 1, none⟩ (.slice z.A z.eras.length z.cap)) = U := ⟨_, rfl⟩
    rw [hU] at HF HBF ⊢
    have hf := HF.out.cell
    exact bodyPost_ret (v := .tuple #[.agg #[.string z.name, .slice z.A z.eras.length z.cap], .int .i64 0]) (by simp [results, Tryz.results76, go_sem, hf]) rfl ⟨by rw [HE.out]; rfl, HBF.out⟩
   | none =>
    obtain ⟨L1, L2⟩ := zMiss HZP.out hz
    have HL := Lib.hid L1
    have HL2 := Lib.hid L2
    have X2 := TK.box wr #[.string ⟨#[]⟩, .slice none 0 0] 75
    have HP2 := Lib.hid (HP.out.step X2.2.2)
    have HX2 := Lib.hid (HX.out.alloc (.cells #[.string ⟨#[]⟩, .slice none 0 0] 75))
    have HB2 := Lib.hid (HB.out.trans (X2.2.2.mono hbz))
    cases hy : fiL ls name with
    | some x =>
     have HR2 := Lib.hid (show res zs ls (ls.length + 1) nm = res zs ls (ls.length + 1 - (k + 1)) x.2 by rw [HR.out, e1, res_next hz hy]; congr 1; omega)
     obtain ⟨M1, M2⟩ := lLook HLP.out hy
     have HM := Lib.hid M1
     have HM2 := Lib.hid M2
     have hx2 := HLS.out x (List.mem_of_find?_eq_some hy)
     clear L1 L2 M1 M2 e1 hz hy X2 HR
     go_wp2_with (first | (at_lookup; refine wpList_look _ rfl _ _ 177 rfl 9 75 keyS Tryz.underlying177 (zeroZo _) bz 20 (mapOf (zPr zs)) rfl HP.out.2.2.1 _ _ rfl (WideMaps.keyOf_string_mk Tryz.underlying9 hnm) _ _ HL.out HL2.out ?_) | (at_lookup; refine wpList_look _ rfl _ _ 178 rfl 9 9 keyS Tryz.underlying178 (zeroSt _) bl 20 (mapOf (lPr ls)) rfl (HP.out.2.2.2.alloc (.cells #[.string ⟨#[]⟩, .slice none 0 0] 75)) _ _ rfl (WideMaps.keyOf_string_mk Tryz.underlying9 hnm) _ _ HM.out HM2.out ?_))
     exact ⟨⟨k + 1, x.2, by omega, by go_num, rfl, hx2, HR2, HP2, HX2, HB2⟩, by simp [intOf]; omega⟩
    | none =>
     have HE := Lib.hid (show res zs ls (ls.length + 1) nm = .none by rw [HR.out, e1, res_none hz hy])
     obtain ⟨M1, M2⟩ := lMiss HLP.out hy
     have HM := Lib.hid M1
     have HM2 := Lib.hid M2
     clear L1 L2 M1 M2 e1 hz hy X2 HR
     go_upto_region 8 with (first | (at_lookup; refine wpList_look _ rfl _ _ 177 rfl 9 75 keyS Tryz.underlying177 (zeroZo _) bz 20 (mapOf (zPr zs)) rfl HP.out.2.2.1 _ _ rfl (WideMaps.keyOf_string_mk Tryz.underlying9 hnm) _ _ HL.out HL2.out ?_) | (at_lookup; refine wpList_look _ rfl _ _ 178 rfl 9 9 keyS Tryz.underlying178 (zeroSt _) bl 20 (mapOf (lPr ls)) rfl (HP.out.2.2.2.alloc (.cells #[.string ⟨#[]⟩, .slice none 0 0] 75)) _ _ rfl (WideMaps.keyOf_string_mk Tryz.underlying9 hnm) _ _ HM.out HM2.out ?_))
     obtain ⟨V, hV⟩ : ∃ V, wr.alloc (.cells #[.string ⟨#[]⟩, .slice none 0 0] 75) = V := ⟨_, rfl⟩
     rw [hV] at HX2 HB2 ⊢
     clear hV fr frz frl fg fgl HX HP HP2
     have fr := HX2.out.cell
     have frz := HX2.out.frz
     have frl := HX2.out.lt
     have HF := Lib.hid (blk2 HX2.out (x := .string ⟨#[]⟩) (y := .slice none 0 0))
     have HBF := Lib.hid (show Below w.heap.size w ((V.setCell ⟨w.heap.size, 0, none⟩ (.string ⟨#[]⟩)).setCell ⟨w.heap.size, 1, none⟩ (.slice none 0 0)) from by have := HB2.out; exact (by repeat (first | exact Below.refl _ _ | assumption | apply Below.drew | apply below_drewN | (refine Below.alloc ?_ (by simp; try omega) _) | (refine Below.setCell ?_ (by simp; try omega) _))))
     go_wp2_with fail
     obtain ⟨U, hU⟩ : ∃ U, ((V.setCell ⟨w.heap.size, 0, none⟩ (.string ⟨#[]⟩)).setCell ⟨w.heap.size, 1, none⟩ (.slice none 0 0)) = U := ⟨_, rfl⟩
     rw [hU] at HF HBF ⊢
     have hf := HF.out.cell
     exact bodyPost_ret (v := .tuple #[.agg #[.string ⟨#[]⟩, .slice none 0 0], .int .i64 6]) (by simp [results, Tryz.results76, go_sem, hf]) rfl ⟨by rw [HE.out]; rfl, HBF.out⟩
  ·obtain rfl : k = ls.length + 1 := by omega
   have HE := Lib.hid (show res zs ls (ls.length + 1) nm = .loop by rw [HR.out, Nat.sub_self]; rfl)
   have HF := Lib.hid (blk2 HX.out (x := .string ⟨#[]⟩) (y := .slice none 0 0))
   have HBF := Lib.hid (show Below w.heap.size w ((wr.setCell ⟨w.heap.size, 0, none⟩ (.string ⟨#[]⟩)).setCell ⟨w.heap.size, 1, none⟩ (.slice none 0 0)) from by have := HB.out; exact (by repeat (first | exact Below.refl _ _ | assumption | apply Below.drew | apply below_drewN | (refine Below.alloc ?_ (by simp; try omega) _) | (refine Below.setCell ?_ (by simp; try omega) _))))
   go_wp2_with fail
   obtain ⟨U, hU⟩ : ∃ U, ((wr.setCell ⟨w.heap.size, 0, none⟩ (.string ⟨#[]⟩)).setCell ⟨w.heap.size, 1, none⟩ (.slice none 0 0)) = U := ⟨_, rfl⟩
   rw [hU] at HF HBF ⊢
   have hf := HF.out.cell
   exact bodyPost_ret (v := .tuple #[.agg #[.string ⟨#[]⟩, .slice none 0 0], .int .i64 8]) (by simp [results, Tryz.results76, go_sem, hf]) rfl ⟨by rw [HE.out]; rfl, HBF.out⟩
set_option maxRecDepth 100000 in
set_option maxHeartbeats 4000000 in
theorem n_of_no' (AR AZ AL : Option Addr) (cR cZ cL : Nat) (rs : List RuT) (zs : List ZoT) (ls : List LkT) (n : Int) (w : World) (H : BkOk w w.heap.size ⟨AR, AZ, AL, cR, cZ, cL, rs, zs, ls⟩) (HI : EraIn w) (h : bookE rs zs ls = n) (h0 : n ≠ 0) :
  Calls Tryz.prog 75 #[.agg #[.slice AR rs.length cR, .slice AZ zs.length cZ, .slice AL ls.length cL]] w
   fun e w' => e = .returned (.tuple #[.pointer none, .int .i64 n]) ∧ Below w.heap.size w w' := by
 have X1 := TK.box w #[.slice AR rs.length cR, .slice AZ zs.length cZ, .slice AL ls.length cL] 26
 have HC := Lib.hid (c_Check' AR AZ AL cR cZ cL rs zs ls (w.alloc (.cells #[.slice AR rs.length cR, .slice AZ zs.length cZ, .slice AL ls.length cL] 26)) (H.step X1.2.2) (HI.on X1.2.2))
 rw [h] at HC
 have hcs := X1.1
 have HB0 := Lib.hid X1.2.2
 have hn0 : (n != 0) = true := by rw [bne_iff_ne]; exact h0
 clear X1 H HI h h0
 go_enter Tryz.func75, Tryz.ntmps75
 go_wp2_with fail
 refine HC.out.mono ?_
 rintro e w1 ⟨rfl, hb1⟩
 go_wp2_with fail
 go_ret2
 exact ⟨rfl, HB0.out.trans (hb1.mono HB0.out.size)⟩
end Go.Proofs.YthppifcggmdmoaaGreatDoor
namespace Go.Proofs.YthppifcggmdmoaaGreatDoor
open Go.RowKit
set_option linter.unusedVariables false
set_option linter.unusedSimpArgs false
attribute [local go_sem ↓] Go.wp_at_zero Go.wp_at_succ
theorem info_Era : (Tryz.prog.info? 80).map (fun i => (i.zero, i.size, i.bytes)) = some (some (.agg #[.int .i64 0, .string ⟨#[]⟩, .int .i64 0, .string ⟨#[]⟩, .int .i64 0]), 5, 56) := by kernel_rfl
theorem er_len {es : List ErT} : ∀ xs ∈ es.map erC, xs.length = 5 := by intro xs hx; obtain ⟨c, _, rfl⟩ := List.mem_map.1 hx; rfl
theorem er_one {es : List ErT} : ∀ u ∈ (es.map erC).flatten, u.oneCell' = true := by
 intro u hu
 obtain ⟨l, hl, hu⟩ := List.mem_flatten.1 hu
 obtain ⟨c, _, rfl⟩ := List.mem_map.1 hl
 simp [erC] at hu
 rcases hu with rfl | rfl | rfl | rfl | rfl <;> rfl
theorem er_flat {es : List ErT} : (es.map erC).flatten.length = es.length * 5 := by rw [flat_len (size := 5) _ er_len, List.length_map]
theorem er_src {w : World} {B : Nat} {A : Option Addr} {es : List ErT} (h : SlAt w B 5 A (es.map erC)) (hn : 0 < es.length) : ∃ ad, A = some ad ∧ ∀ j u, (es.map erC).flatten[j]? = some u → w.cell? (ad.add j) = some u := by
 obtain ⟨b, o, rfl, hb, hc⟩ := h (by simpa using hn)
 refine ⟨_, rfl, fun j u hu => ?_⟩
 have hj : j < (es.map erC).flatten.length := (List.getElem?_eq_some_iff.1 hu).1
 rw [er_flat] at hj
 have h1 := hc (j / 5) (by simp; omega) (j % 5) (by omega)
 have h2 := flat_get (size := 5) (es.map erC) (j / 5) (j % 5) er_len (by simp; omega) (by omega)
 rw [show j / 5 * 5 + j % 5 = j by omega, hu] at h2
 rw [← h2] at h1
 rw [← h1, Go.WideShapes.add_plain]
 congr 2; omega
theorem sl_far {W : World} {B size gg : Nat} {xs : List (List Value)} (h : SlAt W B size (some ⟨gg, 0, none⟩) xs) {a : Addr} (hne : a.block ≠ gg) (v : Value) : SlAt (W.setCell a v) B size (some ⟨gg, 0, none⟩) xs := by
 intro hn
 obtain ⟨b, o, e, hb, hc⟩ := h hn
 simp only [Option.some.injEq, Addr.mk.injEq] at e
 obtain ⟨rfl, rfl, _⟩ := e
 exact ⟨_, _, rfl, hb, fun i hi j hj => (World.cell?_setCell_other _ _ _ _ (fun e => hne (by rw [e]))).trans (hc i hi j hj)⟩
set_option maxRecDepth 100000 in
set_option maxHeartbeats 1000000 in
theorem s_CloneNil (w : World) :
  Calls Tryz.prog 77 #[.slice none 0 0] w fun e w' => e = .returned (.slice none 0 0) ∧ Below w.heap.size w w' := by
 have q0 : ∀ (w : World) (a : Option Addr) (n c n' c' : Nat), (binOp .eql 73 (.slice a n c) (.slice none n' c')).run Tryz.prog w = .ok (.bool a.isNone) w := fun w a n c n' c' => Lib.run_eql_slice_nil w _ _ a n c n' c' Tryz.underlying73
 go_enter Tryz.func77, Tryz.ntmps77
 go_wp2_with fail
 go_ret
 exact ⟨rfl, Below.refl _ _⟩
set_option maxRecDepth 100000 in
set_option maxHeartbeats 1000000 in
theorem s_Clone (A : Option Addr) (cap : Nat) (es : List ErT) (w : World) (hA : SlAt w w.heap.size 5 A (es.map erC)) (h0 : 0 < es.length) (h7 : es.length ≤ 700) :
  Calls Tryz.prog 77 #[.slice A es.length cap] w
   fun e w' => ∃ gg c', e = .returned (.slice (some ⟨gg, 0, none⟩) es.length c') ∧ es.length ≤ c' ∧ c' ≤ maxLen ∧ SlAt w' w'.heap.size 5 (some ⟨gg, 0, none⟩) (es.map erC) ∧ w.heap.size ≤ gg ∧ Below w.heap.size w w' := by
 obtain ⟨i0, hi0, hz0, hz1, hz2⟩ := info_parts info_Era
 have hb0 := (Below.refl w.heap.size w).alloc (Nat.le_refl _) (.cells #[] 80)
 obtain ⟨ad, rfl, hsrc⟩ := er_src (hA.below hb0) h0
 have HS := Lib.hid hsrc
 have HB := Lib.hid hb0
 have HO := Lib.hid (World.ownsRow_made w (base := w.heap.size) (e := 80) (size := 5) #[] 0 (Nat.le_refl _) (by unfold maxLen; omega) (by simp))
 clear hsrc hb0 hA
 have q0 : ∀ (w : World) (a : Option Addr) (n c n' c' : Nat), (binOp .eql 73 (.slice a n c) (.slice none n' c')).run Tryz.prog w = .ok (.bool a.isNone) w := fun w a n c n' c' => Lib.run_eql_slice_nil w _ _ a n c n' c' Tryz.underlying73
 go_enter Tryz.func77, Tryz.ntmps77
 go_wp2_with (at_builtin; go_loud (refine wpList_append_lies _ rfl _ _ _ rfl w.heap.size 80 i0 _ 5 56 Tryz.underlying73 hi0 hz0 hz1 hz2 rfl (by omega) (.slice (some ⟨w.heap.size, 0, none⟩) 0 0) 0 _ rfl HO.out ad es.length cap (es.map erC).flatten rfl er_flat HS.out er_one h0 (by unfold maxLen; omega) (by omega) (by simp) (w.heap.size + 1) (by simp) ?_); intro gg cap2 w9 hown hgrow hat hlt9)
 rw [List.nil_append] at hown
 obtain ⟨A3, cap3, e3, g1, g2, hA3⟩ := own_at (xss := es.map erC) (by simpa using hown) er_len
 rw [List.length_map] at g1 e3
 simp only [Value.slice.injEq] at e3
 have hgg : w.heap.size ≤ gg := by
  rcases hat with h | h
  ·simp [Value.ownBlock] at h; omega
  ·omega
 have HB9 := Lib.hid (HB.out.trans (below_app HB.out.size HO.out hgrow))
 go_wp2_with fail
 go_ret
 exact ⟨gg, cap2, by simp, by rw [e3.2.2]; exact g1, by rw [e3.2.2]; exact g2, by rw [e3.1]; exact hA3, hgg, HB9.out⟩
end Go.Proofs.YthppifcggmdmoaaGreatDoor
namespace Go.Proofs.YthppifcggmdmoaaGreatDoor
open Go.RowKit
set_option linter.unusedVariables false
set_option linter.unusedSimpArgs false
attribute [local go_sem ↓] Go.wp_at_zero Go.wp_at_succ
theorem res_mem {zs : List ZoT} {ls : List LkT} {z : ZoT} : ∀ {n : Nat} {nm : ByteArray}, res zs ls n nm = .zone z → z ∈ zs
 | 0, _, h => by rw [res] at h; cases h
 | n + 1, nm, h => by
  rw [res] at h
  cases hz : fiZ zs nm with
  | some y => rw [hz] at h; injection h with h; subst h; exact List.mem_of_find?_eq_some hz
  | none =>
   rw [hz] at h
   cases hy : fiL ls nm with
   | some x => rw [hy] at h; exact res_mem h
   | none => rw [hy] at h; cases h
set_option maxRecDepth 100000 in
set_option maxHeartbeats 4000000 in
theorem n_Resolve_no (AR AZ AL : Option Addr) (cR cZ cL : Nat) (rs : List RuT) (zs : List ZoT) (ls : List LkT) (nm : ByteArray) (hnm : nm.size ≤ maxLen) (w : World) (H : BkOk w w.heap.size ⟨AR, AZ, AL, cR, cZ, cL, rs, zs, ls⟩) (HI : EraIn w) (n : Int) (h : bookE rs zs ls = n) (h0 : n ≠ 0) :
  Calls Tryz.prog 43 #[.agg #[.slice AR rs.length cR, .slice AZ zs.length cZ, .slice AL ls.length cL], .string nm] w fun e w' => e = .returned (.tuple #[zo0, .int .i64 n]) ∧ Below w.heap.size w w' := by
 have hb0 := (Below.refl w.heap.size w).alloc (Nat.le_refl _) (.cells #[.slice AR rs.length cR, .slice AZ zs.length cZ, .slice AL ls.length cL] 26)
 have k0 := Blk.new w #[.slice AR rs.length cR, .slice AZ zs.length cZ, .slice AL ls.length cL] 26
 obtain ⟨W1, hW1⟩ : ∃ W1, w.alloc (.cells #[.slice AR rs.length cR, .slice AZ zs.length cZ, .slice AL ls.length cL] 26) = W1 := ⟨_, rfl⟩
 have hs1 : W1.heap.size = w.heap.size + 1 := by rw [← hW1, size_alloc]
 rw [hW1] at hb0 k0
 have k1 := k0.alloc (.cells #[.string ⟨#[]⟩, .slice none 0 0] 75)
 have r1 := Blk.new' W1 #[.string ⟨#[]⟩, .slice none 0 0] 75 hs1.symm
 have hb1 := hb0.alloc hb0.size (.cells #[.string ⟨#[]⟩, .slice none 0 0] 75)
 obtain ⟨W2, hW2⟩ : ∃ W2, W1.alloc (.cells #[.string ⟨#[]⟩, .slice none 0 0] 75) = W2 := ⟨_, rfl⟩
 rw [hW2] at k1 r1 hb1
 have HK0 := Lib.hid k1
 have HR0 := Lib.hid r1
 have HB0 := Lib.hid hb1
 have kb := HK0.out.cell
 have HC := Lib.hid (n_of_no' AR AZ AL cR cZ cL rs zs ls n W2 (H.step hb1) (HI.on hb1) h h0)
 have hn0 : (n != 0) = true := by rw [bne_iff_ne]; exact h0
 clear H HI h h0 hb0 k0 k1 r1 hb1
 go_enter Tryz.func43, Tryz.ntmps43
 go_wp2_with fail
 refine HC.out.mono ?_
 rintro e w1 ⟨rfl, hb1⟩
 have HR5 := Lib.hid (HR0.out.step hb1)
 have HB5 := Lib.hid (HB0.out.trans (hb1.mono HB0.out.size))
 have fr := HR5.out.cell
 have frz := HR5.out.frz
 have frl := HR5.out.lt
 clear hb1 HB0 HC HR0 HK0 kb hW1 hW2 hs1
 go_wp2_with fail
 have HF := Lib.hid (blk2 HR5.out (x := .string ⟨#[]⟩) (y := .slice none 0 0))
 have HBF := Lib.hid (show Below w.heap.size w ((w1.setCell ⟨w.heap.size + 1, 0, none⟩ (.string ⟨#[]⟩)).setCell ⟨w.heap.size + 1, 1, none⟩ (.slice none 0 0)) from by have := HB5.out; exact (by repeat (first | exact Below.refl _ _ | assumption | apply Below.drew | apply below_drewN | (refine Below.alloc ?_ (by simp; try omega) _) | (refine Below.setCell ?_ (by simp; try omega) _))))
 obtain ⟨U, hU⟩ : ∃ U, ((w1.setCell ⟨w.heap.size + 1, 0, none⟩ (.string ⟨#[]⟩)).setCell ⟨w.heap.size + 1, 1, none⟩ (.slice none 0 0)) = U := ⟨_, rfl⟩
 rw [hU] at HF HBF ⊢
 have hf := HF.out.cell
 exact bodyPost_ret (v := .tuple #[.agg #[.string ⟨#[]⟩, .slice none 0 0], .int .i64 n]) (by simp [results, Tryz.results43, go_sem, hf]) rfl ⟨rfl, HBF.out⟩
set_option maxRecDepth 100000 in
set_option maxHeartbeats 4000000 in
theorem n_Resolve_z (AR AZ AL : Option Addr) (cR cZ cL : Nat) (rs : List RuT) (zs : List ZoT) (ls : List LkT) (nm : ByteArray) (hnm : nm.size ≤ maxLen) (w : World) (H : BkOk w w.heap.size ⟨AR, AZ, AL, cR, cZ, cL, rs, zs, ls⟩) (HI : EraIn w) (h : bookE rs zs ls = 0) (z : ZoT) (hres : res zs ls (ls.length + 1) nm = .zone z) :
  Calls Tryz.prog 43 #[.agg #[.slice AR rs.length cR, .slice AZ zs.length cZ, .slice AL ls.length cL], .string nm] w fun e w' => ∃ A c, e = .returned (.tuple #[.agg #[.string z.name, .slice A z.eras.length c], .int .i64 0]) ∧ z.eras.length ≤ c ∧ c ≤ maxLen ∧ SlAt w' w'.heap.size 5 A (z.eras.map erC) ∧ Below w.heap.size w w' := by
 have hb0 := (Below.refl w.heap.size w).alloc (Nat.le_refl _) (.cells #[.slice AR rs.length cR, .slice AZ zs.length cZ, .slice AL ls.length cL] 26)
 have k0 := Blk.new w #[.slice AR rs.length cR, .slice AZ zs.length cZ, .slice AL ls.length cL] 26
 obtain ⟨W1, hW1⟩ : ∃ W1, w.alloc (.cells #[.slice AR rs.length cR, .slice AZ zs.length cZ, .slice AL ls.length cL] 26) = W1 := ⟨_, rfl⟩
 have hs1 : W1.heap.size = w.heap.size + 1 := by rw [← hW1, size_alloc]
 rw [hW1] at hb0 k0
 have k1 := k0.alloc (.cells #[.string ⟨#[]⟩, .slice none 0 0] 75)
 have r1 := Blk.new' W1 #[.string ⟨#[]⟩, .slice none 0 0] 75 hs1.symm
 have hb1 := hb0.alloc hb0.size (.cells #[.string ⟨#[]⟩, .slice none 0 0] 75)
 obtain ⟨W2, hW2⟩ : ∃ W2, W1.alloc (.cells #[.string ⟨#[]⟩, .slice none 0 0] 75) = W2 := ⟨_, rfl⟩
 rw [hW2] at k1 r1 hb1
 have HK0 := Lib.hid k1
 have HR0 := Lib.hid r1
 have HB0 := Lib.hid hb1
 have kb := HK0.out.cell
 have HC := Lib.hid (n_of_ok' AR AZ AL cR cZ cL rs zs ls W2 (H.step hb1) (HI.on hb1) h)
 have HH := Lib.hid H
 have HN := Lib.hid (fun (V : World) (g bz bl : Nat) (hp : PlAt V g bz bl 20 20 zs ls) => n_resolve g bz bl zs ls nm hnm V hp (zs_pair h) (ls_pair h) (bookE_inv h).1.2.2 (fun x hx => (H.ls x hx).2))
 have hzm := res_mem hres
 have hze := (H.zs z hzm).2
 obtain ⟨zk, hzk, hze2⟩ := List.getElem_of_mem hzm
 have hz1 := zoE_inv ((bookE_inv h).2.2.1 zk hzk)
 rw [get_bang hzk, hze2] at hz1
 have hz0 := hz1.2.2.1
 have hz7 := hz1.2.2.2.1
 have HZE := Lib.hid hze
 rw [hres, show rsV (.zone z) = .tuple #[.agg #[.string z.name, .slice z.A z.eras.length z.cap], .int .i64 0] from rfl] at HN
 clear hz1 hze2 hzk hzm hze
 clear H HI h hb0 k0 k1 r1 hb1 hres
 go_enter Tryz.func43, Tryz.ntmps43
 go_wp2_with fail
 refine HC.out.mono ?_
 rintro e w1 ⟨g, bz, bl, rfl, hb1, HP⟩
 have HR1 := Lib.hid (HR0.out.step hb1)
 have HB1 := Lib.hid (HB0.out.trans (hb1.mono HB0.out.size))
 have HN1 := Lib.hid (HN.out w1 g bz bl HP)
 clear hb1 HB0 HC HR0 HK0 kb hW1 hW2 hs1 HP HN
 go_wp2_with fail
 refine HN1.out.mono ?_
 rintro e w3 ⟨rfl, hb3⟩
 have hb4 := hb3.alloc hb3.size (.cells #[.string z.name, .slice z.A z.eras.length z.cap] 75)
 have hlt4 : w.heap.size + 1 < w3.heap.size := Nat.lt_of_lt_of_le HR1.out.lt hb3.size
 have HR4 := Lib.hid (HR1.out.step hb4)
 have HB4 := Lib.hid (HB1.out.trans (hb4.mono HB1.out.size))
 have HT4 := Lib.hid (Blk.new w3 #[.string z.name, .slice z.A z.eras.length z.cap] 75)
 clear hb3 HN1 HR1 HB1 hb4
 go_upto_region 5 with fail
 obtain ⟨W4, hW4⟩ : ∃ W, w3.alloc (.cells #[.string z.name, .slice z.A z.eras.length z.cap] 75) = W := ⟨_, rfl⟩
 obtain ⟨g4, hg4⟩ : ∃ g, w3.heap.size = g := ⟨_, rfl⟩
 rw [hW4] at HR4 HB4 HT4 ⊢
 rw [hg4] at HT4 hlt4 ⊢
 have hg4l : g4 < W4.heap.size := HT4.out.lt
 clear hW4 hg4
 have HCl := Lib.hid (s_Clone z.A z.cap z.eras W4 ((HZE.out.1.below HB4.out).more HB4.out.size) hz0 hz7)
 have tc := HT4.out.cell
 have tl := HT4.out.lt
 go_wp2_with fail
 refine HCl.out.mono ?_
 rintro e w6 ⟨gg, c', rfl, q1, q2, HS6, hgg, hb6⟩
 have HT6 := Lib.hid (HT4.out.step hb6)
 have ht7 := HT6.out.set 1 (.slice (some ⟨gg, 0, none⟩) z.eras.length c')
 have HR7 := Lib.hid ((HR4.out.step hb6).far (a := ⟨g4, 1, none⟩) (by show w.heap.size + 1 ≠ g4; omega) (.slice (some ⟨gg, 0, none⟩) z.eras.length c'))
 have HB6 := Lib.hid (HB4.out.trans (hb6.mono HB4.out.size))
 have HB7 := Lib.hid (show Below w.heap.size w (w6.setCell ⟨g4, 1, none⟩ (.slice (some ⟨gg, 0, none⟩) z.eras.length c')) from HB6.out.setCell (by show w.heap.size ≤ g4; omega) _)
 have HS7 := Lib.hid ((sl_far HS6 (a := ⟨g4, 1, none⟩) (by show g4 ≠ gg; omega) (.slice (some ⟨gg, 0, none⟩) z.eras.length c')).more (show w6.heap.size ≤ (w6.setCell ⟨g4, 1, none⟩ (.slice (some ⟨gg, 0, none⟩) z.eras.length c')).heap.size by simp))
 clear tc tl hb6
 have tc := HT6.out.cell
 have tl := HT6.out.lt
 have tz := HT6.out.frz
 go_upto_region 6 with fail
 obtain ⟨W7, hW7⟩ : ∃ W, w6.setCell ⟨g4, 1, none⟩ (.slice (some ⟨gg, 0, none⟩) z.eras.length c') = W := ⟨_, rfl⟩
 have ht7' := Lib.hid (show Blk (w6.setCell ⟨g4, 1, none⟩ (.slice (some ⟨gg, 0, none⟩) z.eras.length c')) g4 75 #[.string z.name, .slice (some ⟨gg, 0, none⟩) z.eras.length c'] from ht7)
 rw [hW7] at HR7 HB7 ht7' HS7 ⊢
 clear hW7 ht7 tc tl tz HR4 HB4 HT4 HB6 HT6 HCl
 have HR5 := HR7
 have HB5 := HB7
 have tc := ht7'.out.cell
 have tl := ht7'.out.lt
 have fr := HR7.out.cell
 have frz := HR7.out.frz
 have frl := HR7.out.lt
 go_wp2_with fail
 have HF := Lib.hid (blk2 HR5.out (x := .string z.name) (y := .slice (some ⟨gg, 0, none⟩) z.eras.length c'))
 have HBF := Lib.hid (show Below w.heap.size w ((W7.setCell ⟨w.heap.size + 1, 0, none⟩ (.string z.name)).setCell ⟨w.heap.size + 1, 1, none⟩ (.slice (some ⟨gg, 0, none⟩) z.eras.length c')) from by have := HB5.out; exact (by repeat (first | exact Below.refl _ _ | assumption | apply Below.drew | apply below_drewN | (refine Below.alloc ?_ (by simp; try omega) _) | (refine Below.setCell ?_ (by simp; try omega) _))))
 have HS8 := Lib.hid (((sl_far HS7.out (a := ⟨w.heap.size + 1, 0, none⟩) (by show w.heap.size + 1 ≠ gg; omega) (.string z.name)).more (show W7.heap.size ≤ ((W7.setCell ⟨w.heap.size + 1, 0, none⟩ (.string z.name)).setCell ⟨w.heap.size + 1, 1, none⟩ (.slice (some ⟨gg, 0, none⟩) z.eras.length c')).heap.size by simp)))
 have HS8 := Lib.hid (sl_far HS8.out (a := ⟨w.heap.size + 1, 1, none⟩) (by show w.heap.size + 1 ≠ gg; omega) (.slice (some ⟨gg, 0, none⟩) z.eras.length c'))
 obtain ⟨U, hU⟩ : ∃ U, ((W7.setCell ⟨w.heap.size + 1, 0, none⟩ (.string z.name)).setCell ⟨w.heap.size + 1, 1, none⟩ (.slice (some ⟨gg, 0, none⟩) z.eras.length c')) = U := ⟨_, rfl⟩
 rw [hU] at HF HBF HS8 ⊢
 have hf := HF.out.cell
 exact bodyPost_ret (v := .tuple #[.agg #[.string z.name, .slice (some ⟨gg, 0, none⟩) z.eras.length c'], .int .i64 0]) (by simp [results, Tryz.results43, go_sem, hf]) rfl ⟨some ⟨gg, 0, none⟩, c', rfl, q1, q2, HS8.out, HBF.out⟩
set_option maxRecDepth 100000 in
set_option maxHeartbeats 4000000 in
theorem n_Resolve_e (AR AZ AL : Option Addr) (cR cZ cL : Nat) (rs : List RuT) (zs : List ZoT) (ls : List LkT) (nm : ByteArray) (hnm : nm.size ≤ maxLen) (w : World) (H : BkOk w w.heap.size ⟨AR, AZ, AL, cR, cZ, cL, rs, zs, ls⟩) (HI : EraIn w) (h : bookE rs zs ls = 0) (n : Int) (hres : rsV (res zs ls (ls.length + 1) nm) = .tuple #[zo0, .int .i64 n]) :
  Calls Tryz.prog 43 #[.agg #[.slice AR rs.length cR, .slice AZ zs.length cZ, .slice AL ls.length cL], .string nm] w fun e w' => e = .returned (.tuple #[zo0, .int .i64 n]) ∧ Below w.heap.size w w' := by
 have hb0 := (Below.refl w.heap.size w).alloc (Nat.le_refl _) (.cells #[.slice AR rs.length cR, .slice AZ zs.length cZ, .slice AL ls.length cL] 26)
 have k0 := Blk.new w #[.slice AR rs.length cR, .slice AZ zs.length cZ, .slice AL ls.length cL] 26
 obtain ⟨W1, hW1⟩ : ∃ W1, w.alloc (.cells #[.slice AR rs.length cR, .slice AZ zs.length cZ, .slice AL ls.length cL] 26) = W1 := ⟨_, rfl⟩
 have hs1 : W1.heap.size = w.heap.size + 1 := by rw [← hW1, size_alloc]
 rw [hW1] at hb0 k0
 have k1 := k0.alloc (.cells #[.string ⟨#[]⟩, .slice none 0 0] 75)
 have r1 := Blk.new' W1 #[.string ⟨#[]⟩, .slice none 0 0] 75 hs1.symm
 have hb1 := hb0.alloc hb0.size (.cells #[.string ⟨#[]⟩, .slice none 0 0] 75)
 obtain ⟨W2, hW2⟩ : ∃ W2, W1.alloc (.cells #[.string ⟨#[]⟩, .slice none 0 0] 75) = W2 := ⟨_, rfl⟩
 rw [hW2] at k1 r1 hb1
 have HK0 := Lib.hid k1
 have HR0 := Lib.hid r1
 have HB0 := Lib.hid hb1
 have kb := HK0.out.cell
 have HC := Lib.hid (n_of_ok' AR AZ AL cR cZ cL rs zs ls W2 (H.step hb1) (HI.on hb1) h)
 have HH := Lib.hid H
 have HN := Lib.hid (fun (V : World) (g bz bl : Nat) (hp : PlAt V g bz bl 20 20 zs ls) => n_resolve g bz bl zs ls nm hnm V hp (zs_pair h) (ls_pair h) (bookE_inv h).1.2.2 (fun x hx => (H.ls x hx).2))
 rw [hres, show zo0 = .agg #[.string ⟨#[]⟩, .slice none 0 0] from rfl] at HN
 clear H HI h hb0 k0 k1 r1 hb1 hres
 go_enter Tryz.func43, Tryz.ntmps43
 go_wp2_with fail
 refine HC.out.mono ?_
 rintro e w1 ⟨g, bz, bl, rfl, hb1, HP⟩
 have HR1 := Lib.hid (HR0.out.step hb1)
 have HB1 := Lib.hid (HB0.out.trans (hb1.mono HB0.out.size))
 have HN1 := Lib.hid (HN.out w1 g bz bl HP)
 clear hb1 HB0 HC HR0 HK0 kb hW1 hW2 hs1 HP HN
 go_wp2_with fail
 refine HN1.out.mono ?_
 rintro e w3 ⟨rfl, hb3⟩
 have hb4 := hb3.alloc hb3.size (.cells #[.string ⟨#[]⟩, .slice none 0 0] 75)
 have hlt4 : w.heap.size + 1 < w3.heap.size := Nat.lt_of_lt_of_le HR1.out.lt hb3.size
 have HR4 := Lib.hid (HR1.out.step hb4)
 have HB4 := Lib.hid (HB1.out.trans (hb4.mono HB1.out.size))
 have HT4 := Lib.hid (Blk.new w3 #[.string ⟨#[]⟩, .slice none 0 0] 75)
 clear hb3 HN1 HR1 HB1 hb4
 go_upto_region 5 with fail
 obtain ⟨W4, hW4⟩ : ∃ W, w3.alloc (.cells #[.string ⟨#[]⟩, .slice none 0 0] 75) = W := ⟨_, rfl⟩
 obtain ⟨g4, hg4⟩ : ∃ g, w3.heap.size = g := ⟨_, rfl⟩
 rw [hW4] at HR4 HB4 HT4 ⊢
 rw [hg4] at HT4 hlt4 ⊢
 have hg4l : g4 < W4.heap.size := HT4.out.lt
 clear hW4 hg4
 have HCl := Lib.hid (s_CloneNil W4)
 have tc := HT4.out.cell
 have tl := HT4.out.lt
 go_wp2_with fail
 refine HCl.out.mono ?_
 rintro e w6 ⟨rfl, hb6⟩
 have HT6 := Lib.hid (HT4.out.step hb6)
 have ht7 := HT6.out.set 1 (.slice none 0 0)
 have HR7 := Lib.hid ((HR4.out.step hb6).far (a := ⟨g4, 1, none⟩) (by show w.heap.size + 1 ≠ g4; omega) (.slice none 0 0))
 have HB6 := Lib.hid (HB4.out.trans (hb6.mono HB4.out.size))
 have HB7 := Lib.hid (show Below w.heap.size w (w6.setCell ⟨g4, 1, none⟩ (.slice none 0 0)) from HB6.out.setCell (by show w.heap.size ≤ g4; omega) _)
 clear tc tl hb6
 have tc := HT6.out.cell
 have tl := HT6.out.lt
 have tz := HT6.out.frz
 go_upto_region 6 with fail
 obtain ⟨W7, hW7⟩ : ∃ W, w6.setCell ⟨g4, 1, none⟩ (.slice none 0 0) = W := ⟨_, rfl⟩
 have ht7' := Lib.hid (show Blk (w6.setCell ⟨g4, 1, none⟩ (.slice none 0 0)) g4 75 #[.string ⟨#[]⟩, .slice none 0 0] from ht7)
 rw [hW7] at HR7 HB7 ht7' ⊢
 clear hW7 ht7 tc tl tz HR4 HB4 HT4 HB6 HT6 HCl
 have HR5 := HR7
 have HB5 := HB7
 have tc := ht7'.out.cell
 have tl := ht7'.out.lt
 have fr := HR7.out.cell
 have frz := HR7.out.frz
 have frl := HR7.out.lt
 go_wp2_with fail
 have HF := Lib.hid (blk2 HR5.out (x := .string ⟨#[]⟩) (y := .slice none 0 0))
 have HBF := Lib.hid (show Below w.heap.size w ((W7.setCell ⟨w.heap.size + 1, 0, none⟩ (.string ⟨#[]⟩)).setCell ⟨w.heap.size + 1, 1, none⟩ (.slice none 0 0)) from by have := HB5.out; exact (by repeat (first | exact Below.refl _ _ | assumption | apply Below.drew | apply below_drewN | (refine Below.alloc ?_ (by simp; try omega) _) | (refine Below.setCell ?_ (by simp; try omega) _))))
 obtain ⟨U, hU⟩ : ∃ U, ((W7.setCell ⟨w.heap.size + 1, 0, none⟩ (.string ⟨#[]⟩)).setCell ⟨w.heap.size + 1, 1, none⟩ (.slice none 0 0)) = U := ⟨_, rfl⟩
 rw [hU] at HF HBF ⊢
 have hf := HF.out.cell
 exact bodyPost_ret (v := .tuple #[.agg #[.string ⟨#[]⟩, .slice none 0 0], .int .i64 n]) (by simp [results, Tryz.results43, go_sem, hf]) rfl ⟨rfl, HBF.out⟩
end Go.Proofs.YthppifcggmdmoaaGreatDoor

