/- Plain: a book's names: those of its zones, and of the links that lead somewhere. No program in sight. -/
import Derived.Test.YthkiohemolndeaaGreatDoorNaP
import Derived.Test.YthkiohemolndeaaGreatDoorNr
namespace Go.Proofs.YthkiohemolndeaaGreatDoor
open Go.Maps
set_option linter.unusedVariables false
def rsOk (zs : List ZoT) (ls : List LkT) (x : Bs) : Bool := match res zs ls (ls.length + 1) ⟨x.toArray⟩ with
  | .zone _ => true
  | _ => false
/-- the keys that were met and lead somewhere -/
def RsC (D0 : MD) (ok : Bs → Bool) (left : Lit → Bool) (ss : List Bs) : Prop := ss.Nodup ∧ ∀ x, x ∈ ss ↔ (has D0 (.string x) = true ∧ left (.string x) = false ∧ ok x = true)
theorem RsC.start (D0 : MD) (ok : Bs → Bool) : RsC D0 ok (has D0) [] := ⟨List.nodup_nil, fun x => by cases has D0 (.string x) <;> simp⟩
theorem RsC.yes {D0 : MD} {ok : Bs → Bool} {left : Lit → Bool} {ss : List Bs} (h : RsC D0 ok left ss) {x : Bs} {y : MD} (hlk : left (.string x) = true) (hat : ∀ zd, D0.atKey (.string x) zd = y) (ho : ok x = true) : RsC D0 ok (fun z => left z && !z.sameKey (.string x)) (ss ++ [x]) := by
  have hhas : has D0 (.string x) = true := has_true_of_atKey hat
  have hnew : x ∉ ss := fun hx => by have := ((h.2 x).1 hx).2.1; rw [hlk] at this; cases this
  refine ⟨List.nodup_append.2 ⟨h.1, by simp, fun a ha b hb => by simp at hb; subst hb; exact fun e => hnew (e ▸ ha)⟩, fun y => ?_⟩
  by_cases hy : y = x
  · subst hy; simp [hhas, ho, Lit.sameKey]
  · simp [h.2 y, hy, Lit.sameKey]
theorem RsC.no {D0 : MD} {ok : Bs → Bool} {left : Lit → Bool} {ss : List Bs} (h : RsC D0 ok left ss) {x : Bs} (ho : ok x = false) : RsC D0 ok (fun z => left z && !z.sameKey (.string x)) ss := by
  refine ⟨h.1, fun y => ?_⟩
  rw [h.2 y]
  by_cases hy : y = x
  · subst hy; simp [ho]
  · simp [hy, Lit.sameKey]
def zNs (zs : List ZoT) : List Bs := zs.map fun z => z.name.data.toList
def lNs (zs : List ZoT) (ls : List LkT) : List Bs := (ls.filter fun x => rsOk zs ls x.1.data.toList).map fun x => x.1.data.toList
def naL (zs : List ZoT) (ls : List LkT) : List Bs := zNs zs ++ lNs zs ls
theorem back_bs (b : ByteArray) : (⟨b.data.toList.toArray⟩ : ByteArray) = b := by simp
theorem bs_inj {a b : ByteArray} (h : a.data.toList = b.data.toList) : a = b := ByteArray.ext (Array.toList_inj.1 h)
theorem has_zs {zs : List ZoT} {x : Bs} : has (mapOf (zPr zs)) (.string x) = true ↔ x ∈ zNs zs := by
  have e := mapOf_has (nm := ⟨x.toArray⟩) (l := zPr zs)
  have e2 : kL (⟨x.toArray⟩ : ByteArray) = .string x := by simp [kL]
  rw [e2] at e
  rw [e, zPr, List.any_map, List.any_eq_true]
  constructor
  · rintro ⟨z, hz, h⟩
    have h2 : z.name = ⟨x.toArray⟩ := sEq_iff.1 h
    exact List.mem_map.2 ⟨z, hz, by rw [h2]⟩
  · intro h
    obtain ⟨z, hz, rfl⟩ := List.mem_map.1 h
    exact ⟨z, hz, sEq_iff.2 (back_bs z.name).symm⟩
theorem has_ls {ls : List LkT} {x : Bs} : has (mapOf (lPr ls)) (.string x) = true ↔ x ∈ ls.map fun x => x.1.data.toList := by
  have e := mapOf_has (nm := ⟨x.toArray⟩) (l := lPr ls)
  have e2 : kL (⟨x.toArray⟩ : ByteArray) = .string x := by simp [kL]
  rw [e2] at e
  rw [e, lPr, List.any_map, List.any_eq_true]
  constructor
  · rintro ⟨z, hz, h⟩
    have h2 : z.1 = ⟨x.toArray⟩ := sEq_iff.1 h
    exact List.mem_map.2 ⟨z, hz, by rw [h2]⟩
  · intro h
    obtain ⟨z, hz, rfl⟩ := List.mem_map.1 h
    exact ⟨z, hz, sEq_iff.2 (back_bs z.1).symm⟩
theorem zNs_nodup {zs : List ZoT} (h : zs.Pairwise (fun a b => a.name ≠ b.name)) : (zNs zs).Nodup :=
  List.pairwise_map.2 (h.imp fun hne e => hne (bs_inj e))
theorem lNs_nodup {zs : List ZoT} {ls : List LkT} (h : ls.Pairwise (fun a b => a.1 ≠ b.1)) : (lNs zs ls).Nodup :=
  List.pairwise_map.2 ((h.sublist List.filter_sublist).imp fun hne e => hne (bs_inj e))
/-- the zones' keys, however they came -/
theorem zs_keys {P : Program} {k : TypeId} {R : Value → Option (MD × List MemPlace)} {w : World} {b n : Nat} {zs : List ZoT} (hown : w.ownsMap P k R b n (mapOf (zPr zs))) (K : Keyed P k) (hk : P.underlying k = some .string) (hp : zs.Pairwise (fun a b => a.name ≠ b.name)) : (zNs zs).Perm (strKeys (mapOf (zPr zs))) :=
  Collected.perm (left := fun _ => false) ⟨zNs_nodup hp, fun x => by rw [has_zs]; simp⟩ hown K hk (fun _ => rfl)
theorem ls_keys {zs : List ZoT} {ls : List LkT} {left : Lit → Bool} {ss : List Bs} (h : RsC (mapOf (lPr ls)) (rsOk zs ls) left ss) (hl : ∀ z, left z = false) (hp : ls.Pairwise (fun a b => a.1 ≠ b.1)) : ss.Perm (lNs zs ls) := by
  refine (List.perm_ext_iff_of_nodup h.1 (lNs_nodup hp)).2 fun x => ?_
  rw [h.2 x, hl, has_ls, lNs, List.mem_map, List.mem_map]
  constructor
  · rintro ⟨⟨y, hy, rfl⟩, _, ho⟩
    exact ⟨y, List.mem_filter.2 ⟨hy, ho⟩, rfl⟩
  · rintro ⟨y, hy, rfl⟩
    obtain ⟨h1, h2⟩ := List.mem_filter.1 hy
    exact ⟨⟨y, h1, rfl⟩, rfl, h2⟩
theorem naL_len (zs : List ZoT) (ls : List LkT) : (naL zs ls).length ≤ zs.length + ls.length := by
  rw [naL, List.length_append, zNs, lNs, List.length_map, List.length_map]
  have := List.length_filter_le (fun x => rsOk zs ls x.1.data.toList) ls
  omega
end Go.Proofs.YthkiohemolndeaaGreatDoor
