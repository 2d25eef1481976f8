/- Texts of books in plain Lean. Nothing of the program here. -/
import Derived.Test.YtoakagkphkgcdaaGreatDoorRxP
import Derived.Test.YtoakagkphkgcdaaGreatDoorBcP
namespace Go.Proofs.YtoakagkphkgcdaaGreatDoor
set_option linter.unusedVariables false
def eraW : ByteArray := ⟨#[101, 114, 97, 32]⟩
def zoneW : ByteArray := ⟨#[122, 111, 110, 101, 32]⟩
def linkW : ByteArray := ⟨#[108, 105, 110, 107, 32]⟩
def sp1 : ByteArray := ⟨#[32]⟩
def nl1 : ByteArray := ⟨#[10]⟩
def erR (x : ErT) : ByteArray := if sEq x.rules eMT = true then dASH ++ spV x.save else x.rules
def erH (x : ErT) : ByteArray := eraW ++ spV x.off ++ sp1 ++ erR x ++ sp1 ++ x.format
def erX (x : ErT) (last : Bool) : ByteArray := if last = true then erH x else erH x ++ (sp1 ++ stV x.until_)
def ruX (r : RuT) : ByteArray := rxV r.name r.letter r.f r.t r.m r.k r.wd r.n r.a r.b r.sv
def zoX (z : ZoT) (k : Nat) : List ByteArray := (zoneW ++ z.name) :: (List.range k).map fun j => erX z.eras[j]! (decide (j + 1 = z.eras.length))
def lkX (x : LkT) : ByteArray := linkW ++ x.1 ++ sp1 ++ x.2
def zosX (zs : List ZoT) : List ByteArray := (zs.map fun z => zoX z z.eras.length).flatten
def bkX (rs : List RuT) (zs : List ZoT) (ls : List LkT) : List ByteArray := rs.map ruX ++ zosX zs ++ ls.map lkX
/-- lines, one below the other -/
def joinN : List ByteArray → ByteArray
  | [] => ⟨#[]⟩
  | [a] => a
  | a :: b :: l => a ++ nl1 ++ joinN (b :: l)
def btV (rs : List RuT) (zs : List ZoT) (ls : List LkT) : ByteArray := if bookE rs zs ls = 0 then joinN (bkX rs zs ls) else ⟨#[]⟩
theorem joinN_snoc (t : ByteArray) : ∀ {l : List ByteArray}, l ≠ [] → joinN (l ++ [t]) = joinN l ++ nl1 ++ t
  | [], h => absurd rfl h
  | [a], _ => rfl
  | a :: b :: l, _ => by
    have ih := joinN_snoc t (l := b :: l) (by simp)
    show a ++ nl1 ++ joinN ((b :: l) ++ [t]) = a ++ nl1 ++ joinN (b :: l) ++ nl1 ++ t
    rw [ih]; simp only [ByteArray.append_assoc]
theorem joinN_join : ∀ (l : List ByteArray), (⟨(Lib.join (l.map (·.data.toList)) nl1.data.toList).toArray⟩ : ByteArray) = joinN l
  | [] => rfl
  | [a] => by
    rw [List.map_singleton, Lib.join_one]; rfl
  | a :: b :: l => by
    have ih := joinN_join (b :: l)
    show _ = a ++ nl1 ++ joinN (b :: l)
    rw [← ih]
    apply ByteArray.ext; apply Array.toList_inj.1
    simp [Lib.join, List.intercalate, ByteArray.data_append]
theorem joinN_size : ∀ {l : List ByteArray}, (∀ x ∈ l, x.size ≤ 200) → (joinN l).size ≤ 201 * l.length
  | [], _ => Nat.zero_le _
  | [a], h => by have := h a (by simp); show a.size ≤ _; simp; omega
  | a :: b :: l, h => by
    have h1 := h a (by simp)
    have ih := joinN_size (l := b :: l) (fun x hx => h x (by simp [hx]))
    show (a ++ nl1 ++ joinN (b :: l)).size ≤ _
    have h2 : nl1.size = 1 := rfl
    rw [ByteArray.size_append, ByteArray.size_append, h2]
    simp only [List.length_cons] at ih ⊢; omega
theorem joinN_pos {l : List ByteArray} (h : ∀ x ∈ l, 0 < x.size) (h0 : l ≠ []) : 0 < (joinN l).size := by
  match l with
  | [] => exact absurd rfl h0
  | [a] => exact h a (by simp)
  | a :: b :: l =>
    show 0 < (a ++ nl1 ++ joinN (b :: l)).size
    have := h a (by simp)
    rw [ByteArray.size_append, ByteArray.size_append]; omega
theorem zosX_snoc {zs : List ZoT} {k : Nat} (h : k < zs.length) : zosX (zs.take (k + 1)) = zosX (zs.take k) ++ zoX zs[k] zs[k].eras.length := by
  unfold zosX; rw [List.take_succ_eq_append_getElem h, List.map_append, List.flatten_append]; simp
theorem zoX_succ (z : ZoT) (k : Nat) : zoX z (k + 1) = zoX z k ++ [erX z.eras[k]! (decide (k + 1 = z.eras.length))] := by
  unfold zoX; rw [List.range_succ, List.map_append]; rfl
theorem mapX_snoc {α : Type} (f : α → ByteArray) {l : List α} {k : Nat} (h : k < l.length) : (l.take (k + 1)).map f = (l.take k).map f ++ [f l[k]] := by
  rw [List.take_succ_eq_append_getElem h, List.map_append]; rfl
theorem st_sz (t : Int) : (stV t).size ≤ 20 := by
  unfold stV
  split
  · rename_i h
    obtain ⟨⟨y, hy, h1, h2⟩, _⟩ := date_nat h
    have hd := dg_sz (n := y) (by omega)
    have hs : ∀ n, (twoB n).size = 2 := fun _ => rfl
    have a1 : (⟨#[45]⟩ : ByteArray).size = 1 := rfl
    have a2 : (⟨#[84]⟩ : ByteArray).size = 1 := rfl
    have a3 : (⟨#[58]⟩ : ByteArray).size = 1 := rfl
    rw [hy, Int.toNat_natCast]
    unfold stT digB
    simp only [ByteArray.size_append, hs, a1, a2, a3]; omega
  · exact Nat.zero_le _
theorem ab_sz {F letter : ByteArray} {save : Int} (h : abE F save letter = 0) : F.size ≤ 12 := by
  cases hf : (fmtOk F && letOk letter) with
  | false => rw [(ab_3 hf).1] at h; cases h
  | true =>
    rw [Bool.and_eq_true] at hf
    have h1 := hf.1
    unfold fmtOk at h1
    by_cases h2 : 12 < F.size
    · rw [if_pos h2] at h1; cases h1
    · omega
theorem abs_sz {rs : List RuT} {x : ErT} (h : absE rs x = 0) : x.format.size ≤ 12 := by
  unfold absE at h
  split at h
  · exact ab_sz h
  · split at h
    · exact ab_sz h
    · rename_i h1; exact absurd h h1
/-- an era that may be: its words are short -/
theorem era_sz {rs : List RuT} {l : List ErT} {k : Nat} (hr : ∀ j, j < rs.length → ruEr rs[j]! = 0) (h : erE rs l k = 0) : l[k]!.format.size ≤ 12 ∧ (erR l[k]!).size ≤ 22 ∧ (spV l[k]!.off).size ≤ 21 := by
  have h1 : erE1 rs l[k]! = 0 := by
    unfold erE at h; by_cases h1 : erE1 rs l[k]! = 0
    · exact h1
    · rw [if_neg h1] at h; exact h
  generalize l[k]! = x at h1
  unfold erE1 at h1
  split at h1
  · cases h1
  · split at h1
    · cases h1
    · split at h1
      · cases h1
      · rename_i h3
        refine ⟨abs_sz h1, ?_, sp_sz _⟩
        unfold erR
        have hd : dASH.size = 1 := rfl
        cases he : sEq x.rules eMT with
        | true => rw [if_pos rfl, ByteArray.size_append, hd]; have := sp_sz x.save; omega
        | false =>
          rw [if_neg (by decide)]
          have hh : hasR rs x.rules = true := by
            cases hx : hasR rs x.rules with
            | true => rfl
            | false => exact absurd ⟨he, hx⟩ h3
          obtain ⟨r, hm, e⟩ := List.any_eq_true.1 hh
          obtain ⟨j, hj, rfl⟩ := List.getElem_of_mem hm
          have h4 := hr j hj
          rw [get_bang hj] at h4
          have h5 := (rule_ok h4).1
          rw [sEq_iff.1 e] at h5; omega
theorem erH_sz {x : ErT} (h : x.format.size ≤ 12 ∧ (erR x).size ≤ 22 ∧ (spV x.off).size ≤ 21) : (erH x).size ≤ 61 := by
  have h1 : eraW.size = 4 := rfl
  have h2 : sp1.size = 1 := rfl
  unfold erH; simp only [ByteArray.size_append, h1, h2]; omega
theorem erX_sz {x : ErT} (h : x.format.size ≤ 12 ∧ (erR x).size ≤ 22 ∧ (spV x.off).size ≤ 21) (b : Bool) : (erX x b).size ≤ 200 ∧ 0 < (erX x b).size := by
  have h0 := erH_sz h
  have h1 : eraW.size = 4 := rfl
  have h2 : sp1.size = 1 := rfl
  have h3 := st_sz x.until_
  have h4 : 4 ≤ (erH x).size := by unfold erH; simp only [ByteArray.size_append, h1, h2]; omega
  unfold erX; split
  · omega
  · rw [ByteArray.size_append, ByteArray.size_append, h2]; omega
theorem ruX_sz {r : RuT} (h : ruEr r = 0) : (ruX r).size ≤ 200 ∧ 0 < (ruX r).size := by
  obtain ⟨z1, z2, ⟨f1, f2, f3, f4, f5, f6⟩, _⟩ := rule_ok h
  have e : ruX r = rxT r.name r.letter r.f r.t r.m r.k r.wd r.n r.a r.b r.sv := if_pos h
  rw [e, rxT, rxW]
  have hf := dg_sz (n := r.f.toNat) (by omega)
  have ht := dg_sz (n := r.t.toNat) (by omega)
  have hm := dg_sz (n := r.m.toNat) (by omega)
  have hd := dt_sz r.k r.wd r.n
  have ha := sp_sz r.a
  have hs := sp_sz r.sv
  have hb := by_sz r.b
  have a1 : (⟨#[114, 117, 108, 101, 32]⟩ : ByteArray).size = 5 := rfl
  have a2 : (⟨#[32]⟩ : ByteArray).size = 1 := rfl
  simp only [ByteArray.size_append, a1, a2]; omega
theorem zn_sz {z : ZoT} (h : isNameB z.name.data.toList = true) : z.name.size ≤ 20 := by
  rw [isNameB, Bool.and_eq_true] at h; exact all_sz h.1
theorem nm_sz {q : ByteArray} (h : isNameB q.data.toList = true) : q.size ≤ 20 := by
  rw [isNameB, Bool.and_eq_true] at h; exact all_sz h.1
end Go.Proofs.YtoakagkphkgcdaaGreatDoor
