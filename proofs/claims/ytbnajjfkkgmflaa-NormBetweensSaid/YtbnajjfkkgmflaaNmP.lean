/- Normal tables in plain Lean: types, each once, and changes where there are others. -/
import Derived.Test.YtbnajjfkkgmflaaTabQ
namespace Go.Proofs.Ytbnajjfkkgmflaa
set_option linter.unusedVariables false
structure NSt where
  (ts : List Ty) (cs : List Ch) (last : Ty)
/-- the number of a type (the length, if it is none of them) -/
def numTy : List Ty → Ty → Nat
  | [], _ => 0
  | y :: l, x => if x = y then 0 else numTy l x + 1
theorem numTy_le : ∀ (l : List Ty) (x : Ty), numTy l x ≤ l.length
  | [], _ => Nat.le_refl _
  | y :: l, x => by
    unfold numTy
    split
    · omega
    · have := numTy_le l x; simp; omega
theorem numTy_lt : ∀ {l : List Ty} {x : Ty}, numTy l x < l.length ↔ x ∈ l
  | [], x => by simp [numTy]
  | y :: l, x => by
    unfold numTy
    split
    · rename_i h; subst h; simp
    · rename_i h
      have := numTy_lt (l := l) (x := x)
      rw [List.length_cons, Nat.add_lt_add_iff_right, this, List.mem_cons]
      exact ⟨Or.inr, fun h1 => h1.resolve_left h⟩
theorem numTy_none {l : List Ty} {x : Ty} (h : ¬ x ∈ l) : numTy l x = l.length := by
  have h1 := numTy_le l x
  have h2 := mt numTy_lt.1 h
  omega
/-- the first place at which it stands -/
theorem numTy_at : ∀ (l : List Ty) (x : Ty) (k : Nat) (hk : k < l.length), (∀ j (hj : j < l.length), j < k → ¬ x = l[j]) → x = l[k] → numTy l x = k
  | [], _, k, hk, _, _ => by simp at hk
  | y :: l, x, 0, _, _, h => by unfold numTy; rw [if_pos (show x = y from h)]
  | y :: l, x, k + 1, hk, h1, h2 => by
    have h0 : ¬ x = y := h1 0 (by simp) (by omega)
    unfold numTy
    rw [if_neg h0, numTy_at l x k (by simpa using hk) (fun j hj hjk => h1 (j + 1) (by simpa using hj) (by omega)) h2]
def addTy (l : List Ty) (x : Ty) : List Ty := if numTy l x < l.length then l else l ++ [x]
def nStep (s : NSt) (at_ : Int) (x : Ty) : NSt := if x = s.last then s else ⟨addTy s.ts x, s.cs ++ [(at_, (numTy s.ts x : Int))], x⟩
def nBegin (x : Ty) : NSt := ⟨[x], [], x⟩
/-- a table that is built of types at times -/
def nBuild (first : Ty) (l : List (Int × Ty)) : NSt := l.foldl (fun s c => nStep s c.1 c.2) (nBegin first)
def chTy (ts : List Ty) (c : Ch) : Int × Ty := (c.1, ts.getD c.2.toNat tyZero)
def normSt (ts : List Ty) (first : Int) (cs : List Ch) : NSt := nBuild (ts.getD first.toNat tyZero) (cs.map (chTy ts))
theorem nBuild_snoc (first : Ty) (l : List (Int × Ty)) (c : Int × Ty) : nBuild first (l ++ [c]) = nStep (nBuild first l) c.1 c.2 := by
  unfold nBuild; rw [List.foldl_append]; rfl
theorem nBuild_take (first : Ty) (l : List (Int × Ty)) (k : Nat) (h : k < l.length) : nBuild first (l.take (k + 1)) = nStep (nBuild first (l.take k)) l[k].1 l[k].2 := by
  rw [List.take_succ_eq_append_getElem h, nBuild_snoc]
theorem nStep_same {s : NSt} {at_ : Int} {x : Ty} (h : x = s.last) : nStep s at_ x = s := by rw [nStep, if_pos h]
theorem nStep_other {s : NSt} {at_ : Int} {x : Ty} (h : ¬ x = s.last) : nStep s at_ x = ⟨addTy s.ts x, s.cs ++ [(at_, (numTy s.ts x : Int))], x⟩ := by rw [nStep, if_neg h]
theorem addTy_old {l : List Ty} {x : Ty} (h : x ∈ l) : addTy l x = l := by rw [addTy, if_pos (numTy_lt.2 h)]
theorem addTy_new {l : List Ty} {x : Ty} (h : ¬ x ∈ l) : addTy l x = l ++ [x] := by rw [addTy, if_neg (mt numTy_lt.1 h)]
theorem addTy_len (l : List Ty) (x : Ty) : (addTy l x).length ≤ l.length + 1 := by
  unfold addTy; split <;> simp
theorem mem_addTy {l : List Ty} {x y : Ty} : y ∈ addTy l x ↔ y ∈ l ∨ y = x := by
  unfold addTy
  split
  · rename_i h; rw [numTy_lt] at h; exact ⟨Or.inl, fun h1 => h1.elim id (fun e => e ▸ h)⟩
  · simp
/-- what holds of all types that are handed in holds of all types of the table -/
theorem nBuild_all (p : Ty → Prop) (first : Ty) (l : List (Int × Ty)) (h0 : p first) (h : ∀ c ∈ l, p c.2) : ∀ t ∈ (nBuild first l).ts, p t := by
  suffices ∀ (l : List (Int × Ty)) (s : NSt), (∀ t ∈ s.ts, p t) → (∀ c ∈ l, p c.2) → ∀ t ∈ (l.foldl (fun s c => nStep s c.1 c.2) s).ts, p t from
    this l (nBegin first) (by simp [nBegin, h0]) h
  intro l
  induction l with
  | nil => intro s hs _; exact hs
  | cons c r ih =>
    intro s hs hc
    refine ih (nStep s c.1 c.2) (fun t ht => ?_) (fun d hd => hc d (by simp [hd]))
    by_cases e : c.2 = s.last
    · rw [nStep_same e] at ht; exact hs t ht
    · rw [nStep_other e] at ht
      rcases mem_addTy.1 ht with ht | ht
      · exact hs t ht
      · rw [ht]; exact hc c (by simp)
theorem nBuild_len (first : Ty) (l : List (Int × Ty)) : (nBuild first l).ts.length ≤ l.length + 1 ∧ (nBuild first l).cs.length ≤ l.length := by
  suffices ∀ (l : List (Int × Ty)) (s : NSt), (l.foldl (fun s c => nStep s c.1 c.2) s).ts.length ≤ s.ts.length + l.length ∧ (l.foldl (fun s c => nStep s c.1 c.2) s).cs.length ≤ s.cs.length + l.length by
    have h := this l (nBegin first)
    simp [nBegin] at h
    unfold nBuild nBegin
    omega
  intro l
  induction l with
  | nil => intro s; simp
  | cons c r ih =>
    intro s
    have h := ih (nStep s c.1 c.2)
    have h2 : (nStep s c.1 c.2).ts.length ≤ s.ts.length + 1 ∧ (nStep s c.1 c.2).cs.length ≤ s.cs.length + 1 := by
      unfold nStep
      split
      · simp
      · exact ⟨addTy_len s.ts c.2, by simp⟩
    simp only [List.foldl_cons, List.length_cons]
    omega
/-- at the time of a change of a table that may be it is that change's type -/
theorem tabOf_ch {ts : List Ty} {first : Int} {cs : List Ch} (h : TabOk ts first cs) (k : Nat) (hk : k < cs.length) : tabOf ts first cs cs[k].1 = ts.getD cs[k].2.toNat tyZero := by
  rw [tabOf, tyIx_at k hk (Int.le_refl _) (fun j hj hkj => by have := sorted_at h.sorted hj hkj; omega)]
theorem norm_ref {ts : List Ty} {first : Int} {cs : List Ch} (h : TabOk ts first cs) : cs.map (fun c => (c.1, tabOf ts first cs c.1)) = cs.map (chTy ts) := by
  apply List.ext_getElem (by simp)
  intro i h1 h2
  have hi : i < cs.length := by simpa using h1
  simp only [List.getElem_map, chTy]
  rw [tabOf_ch h i hi]
end Go.Proofs.Ytbnajjfkkgmflaa
