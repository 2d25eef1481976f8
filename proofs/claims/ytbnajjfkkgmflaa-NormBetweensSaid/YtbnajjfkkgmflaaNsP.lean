/- Two normal tables are the same just where the tables say the same at all times: plain Lean. -/
import Derived.Test.YtbnajjfkkgmflaaNmP
namespace Go.Proofs.Ytbnajjfkkgmflaa
set_option linter.unusedVariables false
/-- the changes that are left -/
def dd : Ty → List (Int × Ty) → List (Int × Ty)
  | _, [] => []
  | x, c :: r => if c.2 = x then dd x r else c :: dd c.2 r
/-- which type it is at a time -/
def fAt (x : Ty) (l : List (Int × Ty)) (t : Int) : Ty := l.foldl (fun y c => if c.1 ≤ t then c.2 else y) x
theorem fAt_cons (x : Ty) (c : Int × Ty) (r : List (Int × Ty)) (t : Int) : fAt x (c :: r) t = fAt (if c.1 ≤ t then c.2 else x) r t := rfl
theorem fAt_none {x : Ty} {l : List (Int × Ty)} {t : Int} (h : ∀ c ∈ l, t < c.1) : fAt x l t = x := by
  induction l generalizing x with
  | nil => rfl
  | cons c r ih =>
    rw [fAt_cons, if_neg (by have := h c (by simp); omega)]
    exact ih (fun d hd => h d (by simp [hd]))
theorem tabOf_fAt (ts : List Ty) (first : Int) (cs : List Ch) (t : Int) : tabOf ts first cs t = fAt (ts.getD first.toNat tyZero) (cs.map (chTy ts)) t := by
  unfold tabOf tyIx
  induction cs generalizing first with
  | nil => rfl
  | cons c r ih =>
    rw [List.foldl_cons, List.map_cons, fAt_cons, ih]
    congr 1
    unfold chTy
    split <;> rfl
theorem dd_sub : ∀ (x : Ty) (l : List (Int × Ty)), ∀ c ∈ dd x l, c ∈ l
  | _, [], c, h => by simp [dd] at h
  | x, d :: r, c, h => by
    unfold dd at h
    split at h
    · exact List.mem_cons_of_mem _ (dd_sub x r c h)
    · rcases List.mem_cons.1 h with rfl | h
      · simp
      · exact List.mem_cons_of_mem _ (dd_sub d.2 r c h)
theorem dd_sorted : ∀ (x : Ty) (l : List (Int × Ty)), l.Pairwise (fun a b => a.1 < b.1) → (dd x l).Pairwise (fun a b => a.1 < b.1)
  | _, [], _ => by simp [dd]
  | x, d :: r, h => by
    obtain ⟨h1, h2⟩ := List.pairwise_cons.1 h
    unfold dd
    split
    · exact dd_sorted x r h2
    · exact List.pairwise_cons.2 ⟨fun c hc => h1 c (dd_sub _ _ c hc), dd_sorted d.2 r h2⟩
theorem fAt_dd : ∀ (x : Ty) (l : List (Int × Ty)) (t : Int), l.Pairwise (fun a b => a.1 < b.1) → fAt x (dd x l) t = fAt x l t
  | _, [], _, _ => rfl
  | x, c :: r, t, h => by
    obtain ⟨h1, h2⟩ := List.pairwise_cons.1 h
    unfold dd
    split
    · rename_i e
      rw [fAt_dd x r t h2, fAt_cons, e]; simp
    · rename_i e
      rw [fAt_cons, fAt_cons]
      by_cases hc : c.1 ≤ t
      · rw [if_pos hc]; exact fAt_dd c.2 r t h2
      · rw [if_neg hc, fAt_none (fun d hd => by have := h1 d (dd_sub _ _ d hd); omega), fAt_none (fun d hd => by have := h1 d hd; omega)]
def Red : Ty → List (Int × Ty) → Prop
  | _, [] => True
  | x, c :: r => ¬ c.2 = x ∧ Red c.2 r
theorem dd_red : ∀ (x : Ty) (l : List (Int × Ty)), Red x (dd x l)
  | _, [] => trivial
  | x, c :: r => by
    unfold dd
    split
    · exact dd_red x r
    · rename_i e; exact ⟨e, dd_red c.2 r⟩
theorem fAt_head {x : Ty} {c : Int × Ty} {r : List (Int × Ty)} (h : (c :: r).Pairwise (fun a b => a.1 < b.1)) : fAt x (c :: r) c.1 = c.2 := by
  rw [fAt_cons, if_pos (Int.le_refl _)]
  exact fAt_none (List.pairwise_cons.1 h).1
theorem red_unique : ∀ (x : Ty) (D E : List (Int × Ty)), Red x D → Red x E → D.Pairwise (fun a b => a.1 < b.1) → E.Pairwise (fun a b => a.1 < b.1) →
    (∀ c, c ∈ D ∨ c ∈ E → fAt x D c.1 = fAt x E c.1) → D = E
  | _, [], [], _, _, _, _, _ => rfl
  | x, [], e :: E, _, hE, _, sE, h => by
    have := h e (Or.inr (by simp))
    rw [fAt_head sE] at this
    exact absurd this.symm hE.1
  | x, d :: D, [], hD, _, sD, _, h => by
    have := h d (Or.inl (by simp))
    rw [fAt_head sD] at this
    exact absurd this hD.1
  | x, d :: D, e :: E, hD, hE, sD, sE, h => by
    have hd := h d (Or.inl (by simp))
    have he := h e (Or.inr (by simp))
    rw [fAt_head sD] at hd
    rw [fAt_head sE] at he
    obtain ⟨pD, qD⟩ := List.pairwise_cons.1 sD
    obtain ⟨pE, qE⟩ := List.pairwise_cons.1 sE
    have ht : d.1 = e.1 := by
      rcases Int.lt_trichotomy d.1 e.1 with h1 | h1 | h1
      · rw [fAt_none (x := x) (l := e :: E) (t := d.1) (fun c hc => by rcases List.mem_cons.1 hc with rfl | hc; exact h1; have := pE c hc; omega)] at hd
        exact absurd hd hD.1
      · exact h1
      · rw [fAt_none (x := x) (l := d :: D) (t := e.1) (fun c hc => by rcases List.mem_cons.1 hc with rfl | hc; exact h1; have := pD c hc; omega)] at he
        exact absurd he.symm hE.1
    have hy : d.2 = e.2 := by
      rw [ht, fAt_head sE] at hd; exact hd
    have hde : d = e := Prod.ext ht hy
    subst hde
    have hr : D = E := red_unique d.2 D E hD.2 hE.2 qD qE (fun c hc => by
      have hlt : d.1 < c.1 := hc.elim (pD c) (pE c)
      have := h c (hc.imp (List.mem_cons_of_mem _) (List.mem_cons_of_mem _))
      rw [fAt_cons, fAt_cons, if_pos (by omega)] at this
      exact this)
    rw [hr]
theorem fold_dd (l : List (Int × Ty)) (s : NSt) : l.foldl (fun s c => nStep s c.1 c.2) s = (dd s.last l).foldl (fun s c => nStep s c.1 c.2) s := by
  induction l generalizing s with
  | nil => rfl
  | cons c r ih =>
    unfold dd
    rw [List.foldl_cons]
    split
    · rename_i e
      rw [nStep_same e]; exact ih s
    · rename_i e
      rw [List.foldl_cons, ih]
      rw [nStep_other e]
theorem nBuild_dd (x : Ty) (l : List (Int × Ty)) : nBuild x l = nBuild x (dd x l) := fold_dd l (nBegin x)
theorem addTy_pre (l : List Ty) (x : Ty) : ∃ e, addTy l x = l ++ e ∧ (addTy l x).getD (numTy l x) tyZero = x := by
  by_cases h : x ∈ l
  · refine ⟨[], by rw [addTy_old h]; simp, ?_⟩
    rw [addTy_old h]
    have hlt := numTy_lt.2 h
    have : ∀ (l : List Ty), numTy l x < l.length → l.getD (numTy l x) tyZero = x := by
      intro l
      induction l with
      | nil => intro h; simp [numTy] at h
      | cons y r ih =>
        intro h
        unfold numTy at h ⊢
        split
        · rename_i e; simp [e]
        · rename_i e
          rw [if_neg e] at h
          simpa using ih (by simpa using h)
    exact this l hlt
  · exact ⟨[x], addTy_new h, by rw [addTy_new h, numTy_none h]; simp⟩
theorem chTy_pre {ts e : List Ty} {c : Ch} (h : 0 ≤ c.2 ∧ c.2 < ts.length) : chTy (ts ++ e) c = chTy ts c := by
  have : c.2.toNat < ts.length := by omega
  simp [chTy, List.getD, List.getElem?_append, this]
/-- what a table that is built says -/
theorem fold_decode (l : List (Int × Ty)) (s : NSt) (hs : ∀ c ∈ s.cs, 0 ≤ c.2 ∧ c.2 < s.ts.length) :
    ∃ e, (l.foldl (fun s c => nStep s c.1 c.2) s).ts = s.ts ++ e ∧
      (l.foldl (fun s c => nStep s c.1 c.2) s).cs.map (chTy (l.foldl (fun s c => nStep s c.1 c.2) s).ts) = s.cs.map (chTy s.ts) ++ dd s.last l := by
  induction l generalizing s with
  | nil => exact ⟨[], by simp, by simp [dd]⟩
  | cons c r ih =>
    rw [List.foldl_cons]
    by_cases e : c.2 = s.last
    · rw [nStep_same e]
      obtain ⟨x, h1, h2⟩ := ih s hs
      exact ⟨x, h1, by rw [h2, dd, if_pos e]⟩
    · rw [nStep_other e]
      obtain ⟨x, hx, hg⟩ := addTy_pre s.ts c.2
      have hlen : s.ts.length ≤ (addTy s.ts c.2).length := by rw [hx]; simp
      have hnum : numTy s.ts c.2 < (addTy s.ts c.2).length := by
        by_cases h : c.2 ∈ s.ts
        · rw [addTy_old h]; exact numTy_lt.2 h
        · rw [addTy_new h, numTy_none h]; simp
      obtain ⟨y, h1, h2⟩ := ih ⟨addTy s.ts c.2, s.cs ++ [(c.1, (numTy s.ts c.2 : Int))], c.2⟩ (fun d hd => by
        rcases List.mem_append.1 hd with hd | hd
        · have := hs d hd; simp only; omega
        · simp only [List.mem_singleton] at hd; subst hd; simp only; omega)
      refine ⟨x ++ y, by rw [h1]; simp only; rw [hx, List.append_assoc], ?_⟩
      rw [h2, dd, if_neg e]
      simp only [List.map_append, List.map_cons, List.map_nil]
      rw [List.append_assoc]
      congr 1
      · refine List.map_congr_left (fun d hd => ?_)
        rw [hx, chTy_pre (hs d hd)]
      · simp only [List.singleton_append, List.cons.injEq, and_true]
        unfold chTy
        simp only [Int.toNat_natCast]
        rw [hg]
theorem nBuild_decode (x : Ty) (l : List (Int × Ty)) : (nBuild x l).ts.head? = some x ∧ (nBuild x l).cs.map (chTy (nBuild x l).ts) = dd x l := by
  obtain ⟨e, h1, h2⟩ := fold_decode l (nBegin x) (by simp [nBegin])
  refine ⟨?_, ?_⟩
  · unfold nBuild; rw [h1]; simp [nBegin]
  · unfold nBuild; rw [h2]; simp [nBegin]
def sameB (s1 s2 : NSt) : Bool := decide (s1.ts = s2.ts) && decide (s1.cs = s2.cs)
theorem same_iff {ts1 ts2 : List Ty} {f1 f2 : Int} {cs1 cs2 : List Ch} (h1 : TabOk ts1 f1 cs1) (h2 : TabOk ts2 f2 cs2) :
    sameB (normSt ts1 f1 cs1) (normSt ts2 f2 cs2) = true ↔ ∀ t ∈ (-1125899906842624 : Int) :: ((cs1 ++ cs2).map (·.1)), tabOf ts1 f1 cs1 t = tabOf ts2 f2 cs2 t := by
  have s1 : (cs1.map (chTy ts1)).Pairwise (fun a b => a.1 < b.1) := by rw [List.pairwise_map]; exact h1.sorted
  have s2 : (cs2.map (chTy ts2)).Pairwise (fun a b => a.1 < b.1) := by rw [List.pairwise_map]; exact h2.sorted
  obtain ⟨a1, a2⟩ := nBuild_decode (ts1.getD f1.toNat tyZero) (cs1.map (chTy ts1))
  obtain ⟨b1, b2⟩ := nBuild_decode (ts2.getD f2.toNat tyZero) (cs2.map (chTy ts2))
  unfold sameB
  rw [Bool.and_eq_true, decide_eq_true_eq, decide_eq_true_eq]
  constructor
  · rintro ⟨e1, e2⟩ t _
    unfold normSt at e1 e2
    have hx : ts1.getD f1.toNat tyZero = ts2.getD f2.toNat tyZero := by
      rw [e1, b1] at a1; exact (Option.some.inj a1).symm
    have hd : dd (ts1.getD f1.toNat tyZero) (cs1.map (chTy ts1)) = dd (ts2.getD f2.toNat tyZero) (cs2.map (chTy ts2)) := by
      rw [← a2, ← b2, e1, e2]
    rw [tabOf_fAt, tabOf_fAt, ← fAt_dd _ _ _ s1, ← fAt_dd _ _ _ s2, hd, hx]
  · intro h
    have h0 := h (-1125899906842624) (by simp)
    have n1 : ∀ c ∈ cs1.map (chTy ts1), (-1125899906842624 : Int) < c.1 := fun c hc => by
      obtain ⟨d, hd, rfl⟩ := List.mem_map.1 hc
      have := (h1.range d hd).1
      simp only [chTy]; omega
    have n2 : ∀ c ∈ cs2.map (chTy ts2), (-1125899906842624 : Int) < c.1 := fun c hc => by
      obtain ⟨d, hd, rfl⟩ := List.mem_map.1 hc
      have := (h2.range d hd).1
      simp only [chTy]; omega
    rw [tabOf_fAt, tabOf_fAt, fAt_none n1, fAt_none n2] at h0
    have hd : dd (ts1.getD f1.toNat tyZero) (cs1.map (chTy ts1)) = dd (ts2.getD f2.toNat tyZero) (cs2.map (chTy ts2)) := by
      rw [← h0]
      refine red_unique _ _ _ (dd_red _ _) (dd_red _ _) (dd_sorted _ _ s1) (dd_sorted _ _ s2) (fun c hc => ?_)
      rw [fAt_dd _ _ _ s1, fAt_dd _ _ _ s2]
      have hm : c.1 ∈ (-1125899906842624 : Int) :: ((cs1 ++ cs2).map (·.1)) := by
        refine List.mem_cons_of_mem _ ?_
        rw [List.map_append, List.mem_append]
        rcases hc with hc | hc
        · obtain ⟨d, hd, e⟩ := List.mem_map.1 (dd_sub _ _ c hc)
          exact Or.inl (List.mem_map.2 ⟨d, hd, by rw [← e]; rfl⟩)
        · obtain ⟨d, hd, e⟩ := List.mem_map.1 (dd_sub _ _ c hc)
          exact Or.inr (List.mem_map.2 ⟨d, hd, by rw [← e]; rfl⟩)
      have := h c.1 hm
      rw [tabOf_fAt, tabOf_fAt, ← h0] at this
      exact this
    have hN : normSt ts1 f1 cs1 = normSt ts2 f2 cs2 := by
      unfold normSt
      rw [nBuild_dd, nBuild_dd (ts2.getD f2.toNat tyZero), hd, h0]
    rw [hN]
    exact ⟨rfl, rfl⟩
end Go.Proofs.Ytbnajjfkkgmflaa
