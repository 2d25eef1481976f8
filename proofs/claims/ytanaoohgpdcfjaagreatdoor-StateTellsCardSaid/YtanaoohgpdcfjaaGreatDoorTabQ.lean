/- Tables that may be, in plain Lean: what is known of them, and which type it is at a time. Nothing of the program here. -/
import Derived.Test.YtanaoohgpdcfjaaGreatDoorOpn
namespace Go.Proofs.YtanaoohgpdcfjaaGreatDoor
set_option linter.unusedVariables false
structure TabOk (ts : List Ty) (first : Int) (cs : List Ch) : Prop where
  tpos : 0 < ts.length
  tmax : ts.length ≤ 250
  cmax : cs.length ≤ 1000
  types : ∀ t ∈ ts, -75600 ≤ t.1 ∧ t.1 ≤ 75600 ∧ isAbbrB t.2.2.data.toList = true
  first0 : 0 ≤ first
  first1 : first < ts.length
  range : ∀ c ∈ cs, -1099511627776 ≤ c.1 ∧ c.1 ≤ 1099511627776 ∧ 0 ≤ c.2 ∧ c.2 < ts.length
  sorted : cs.Pairwise (fun a b => a.1 < b.1)
theorem typesE_ok : ∀ {ts : List Ty}, typesE ts = 0 → ∀ t ∈ ts, -75600 ≤ t.1 ∧ t.1 ≤ 75600 ∧ isAbbrB t.2.2.data.toList = true
  | [], _, t, ht => by simp at ht
  | x :: r, h, t, ht => by
    unfold typesE at h
    by_cases h1 : -75600 ≤ x.1 ∧ x.1 ≤ 75600
    · rw [if_neg (by simpa using h1)] at h
      cases h2 : isAbbrB x.2.2.data.toList with
      | false => rw [h2] at h; simp at h
      | true =>
        rw [h2] at h
        rcases List.mem_cons.1 ht with rfl | ht
        · exact ⟨h1.1, h1.2, h2⟩
        · exact typesE_ok (by simpa using h) t ht
    · rw [if_pos h1] at h; omega
theorem changesE_ok {last : Int} : ∀ {cs : List Ch} {p : Option Int}, changesE last p cs = 0 → (∀ c ∈ cs, -1099511627776 ≤ c.1 ∧ c.1 ≤ 1099511627776 ∧ 0 ≤ c.2 ∧ c.2 ≤ last) ∧ cs.Pairwise (fun a b => a.1 < b.1) ∧ (∀ q, p = some q → ∀ c ∈ cs, q < c.1)
  | [], p, _ => ⟨by simp, List.Pairwise.nil, by simp⟩
  | x :: r, p, h => by
    unfold changesE at h
    by_cases h1 : -1099511627776 ≤ x.1 ∧ x.1 ≤ 1099511627776 ∧ 0 ≤ x.2 ∧ x.2 ≤ last
    · have key : changesE last (some x.1) r = 0 ∧ (∀ q, p = some q → q < x.1) := by
        cases p with
        | none => rw [if_neg (by simpa using h1), if_neg (by simp)] at h; exact ⟨h, by simp⟩
        | some q =>
          rw [if_neg (by simpa using h1)] at h
          by_cases h2 : x.1 ≤ q
          · rw [if_pos (by simpa using h2)] at h; omega
          · rw [if_neg (by simpa using h2)] at h; exact ⟨h, fun q' e => by injection e; omega⟩
      obtain ⟨i1, i2, i3⟩ := changesE_ok key.1
      have i4 := i3 x.1 rfl
      refine ⟨fun c hc => ?_, List.Pairwise.cons i4 i2, fun q hq c hc => ?_⟩
      · rcases List.mem_cons.1 hc with rfl | hc
        · exact h1
        · exact i1 c hc
      · have h3 := key.2 q hq
        rcases List.mem_cons.1 hc with rfl | hc
        · exact h3
        · have := i4 c hc; omega
    · rw [if_pos h1] at h; omega
theorem tabOk {ts : List Ty} {first : Int} {cs : List Ch} (h : tabE ts first cs = 0) : TabOk ts first cs := by
  by_cases h1 : ts.length > 250 ∨ cs.length > 1000
  · rw [tabE_large h1] at h; omega
  · by_cases h2 : ts.length = 0
    · rw [tabE_form h1 h2] at h; omega
    · by_cases h3 : typesE ts = 0
      · by_cases h4 : 0 ≤ first ∧ first ≤ ts.length - 1
        · rw [tabE_changes h1 h2 h3 h4] at h
          obtain ⟨i1, i2, _⟩ := changesE_ok h
          exact ⟨by omega, by omega, by omega, typesE_ok h3, h4.1, by omega, fun c hc => by have := i1 c hc; omega, i2⟩
        · rw [tabE_first h1 h2 h3 h4] at h; omega
      · rw [tabE_types h1 h2 h3] at h; exact absurd h h3
/-- the number of the type at a time: as the reference counts -/
def tyIx (first : Int) (cs : List Ch) (time : Int) : Int := cs.foldl (fun k c => if c.1 ≤ time then c.2 else k) first
def tyZero : Ty := (0, false, ⟨#[]⟩)
def tabOf (ts : List Ty) (first : Int) (cs : List Ch) (time : Int) : Ty := ts.getD (tyIx first cs time).toNat tyZero
theorem tyIx_range {ts : List Ty} {first : Int} {cs : List Ch} (time : Int) (h : TabOk ts first cs) : 0 ≤ tyIx first cs time ∧ tyIx first cs time < ts.length := by
  have : ∀ (l : List Ch) (k : Int), (∀ c ∈ l, 0 ≤ c.2 ∧ c.2 < ts.length) → 0 ≤ k → k < ts.length → 0 ≤ l.foldl (fun k c => if c.1 ≤ time then c.2 else k) k ∧ l.foldl (fun k c => if c.1 ≤ time then c.2 else k) k < ts.length := by
    intro l
    induction l with
    | nil => intro k _ h1 h2; exact ⟨h1, h2⟩
    | cons c r ih =>
      intro k hc h1 h2
      have h3 := hc c (by simp)
      simp only [List.foldl_cons]
      by_cases h4 : c.1 ≤ time
      · rw [if_pos h4]; exact ih _ (fun c hc' => hc c (by simp [hc'])) h3.1 h3.2
      · rw [if_neg h4]; exact ih _ (fun c hc' => hc c (by simp [hc'])) h1 h2
  exact this cs first (fun c hc => ⟨(h.range c hc).2.2.1, (h.range c hc).2.2.2⟩) h.first0 h.first1
theorem tyIx_take_succ (first : Int) (cs : List Ch) (time : Int) (k : Nat) (h : k < cs.length) : tyIx first (cs.take (k + 1)) time = if cs[k].1 ≤ time then cs[k].2 else tyIx first (cs.take k) time := by
  unfold tyIx; rw [List.take_succ_eq_append_getElem h, List.foldl_append]; rfl
theorem tyIx_none {first : Int} {cs : List Ch} {time : Int} (h : ∀ c ∈ cs, ¬ c.1 ≤ time) : tyIx first cs time = first := by
  unfold tyIx
  induction cs with
  | nil => rfl
  | cons c r ih => rw [List.foldl_cons, if_neg (h c (by simp))]; exact ih (fun c hc => h c (by simp [hc]))
theorem tyIx_at {first : Int} {cs : List Ch} {time : Int} (k : Nat) (hk : k < cs.length) (h1 : cs[k].1 ≤ time) (h2 : ∀ j (hj : j < cs.length), k < j → ¬ cs[j].1 ≤ time) : tyIx first cs time = cs[k].2 := by
  have : tyIx first cs time = tyIx (tyIx first (cs.take (k + 1)) time) (cs.drop (k + 1)) time := by
    unfold tyIx; rw [← List.foldl_append, List.take_append_drop]
  rw [this, tyIx_none, tyIx_take_succ first cs time k hk, if_pos h1]
  intro c hc
  obtain ⟨i, hi, rfl⟩ := List.mem_iff_getElem.1 hc
  rw [List.getElem_drop]
  exact h2 _ _ (by omega)
theorem sorted_at {cs : List Ch} (h : cs.Pairwise (fun a b => a.1 < b.1)) {i j : Nat} (hj : j < cs.length) (hij : i < j) : (cs[i]'(by omega)).1 < cs[j].1 := (List.pairwise_iff_getElem.1 h) i j (by omega) hj hij
/-- how many changes are not behind a time -/
def chCount (cs : List Ch) (time : Int) : Nat := (List.range cs.length).countP (fun i => !decide (time < (cs.getD i (0, 0)).1))
theorem countP_prefix (n m : Nat) (p : Nat → Bool) (hm : m ≤ n) (h1 : ∀ i, i < m → p i = true) (h2 : ∀ i, m ≤ i → i < n → p i = false) : (List.range n).countP p = m := by
  rw [show n = m + (n - m) by omega, List.range_add, List.countP_append, List.countP_map]
  have a : (List.range m).countP p = m := by
    rw [List.countP_eq_length.2 (fun i hi => h1 i (by simpa using hi)), List.length_range]
  have b : (List.range (n - m)).countP (p ∘ (m + ·)) = 0 := by
    rw [List.countP_eq_zero]
    intro i hi
    have : i < n - m := by simpa using hi
    simp [h2 (m + i) (by omega) (by omega)]
  rw [a, b]; rfl
theorem chCount_spec {cs : List Ch} (h : cs.Pairwise (fun a b => a.1 < b.1)) (time : Int) : chCount cs time ≤ cs.length ∧ (∀ i (hi : i < cs.length), i < chCount cs time → cs[i].1 ≤ time) ∧ (∀ i (hi : i < cs.length), chCount cs time ≤ i → time < cs[i].1) := by
  have hd : ∀ i (hi : i < cs.length), (cs.getD i (0, 0)) = cs[i] := fun i hi => by simp [List.getD, hi]
  -- the first one behind
  have : ∃ m, m ≤ cs.length ∧ (∀ i (hi : i < cs.length), i < m → cs[i].1 ≤ time) ∧ (∀ i (hi : i < cs.length), m ≤ i → ¬ cs[i].1 ≤ time) := by
    have ind : ∀ n, n ≤ cs.length → ∃ m, m ≤ n ∧ (∀ i (hi : i < cs.length), i < m → cs[i].1 ≤ time) ∧ (∀ i (hi : i < cs.length), m ≤ i → i < n → ¬ cs[i].1 ≤ time) := by
      intro n
      induction n with
      | zero => intro _; exact ⟨0, by omega, fun i _ h => by omega, fun i _ _ h => by omega⟩
      | succ n ih =>
        intro hn
        obtain ⟨m, hm, m1, m2⟩ := ih (by omega)
        by_cases hmn : m = n
        · by_cases hx : (cs[n]'(by omega)).1 ≤ time
          · refine ⟨n + 1, by omega, fun i hi h => ?_, fun i hi h1 h2 => by omega⟩
            by_cases e : i = n
            · subst e; exact hx
            · exact m1 i hi (by omega)
          · refine ⟨m, by omega, m1, fun i hi h1 h2 => ?_⟩
            have e : i = n := by omega
            subst e; exact hx
        · refine ⟨m, by omega, m1, fun i hi h1 h2 => ?_⟩
          by_cases e : i = n
          · subst e
            have := m2 m (by omega) (by omega) (by omega)
            have := sorted_at h hi (show m < i by omega)
            omega
          · exact m2 i hi h1 (by omega)
    obtain ⟨m, hm, m1, m2⟩ := ind cs.length (Nat.le_refl _)
    exact ⟨m, hm, m1, fun i hi h => m2 i hi h hi⟩
  obtain ⟨m, hm, m1, m2⟩ := this
  have e : chCount cs time = m := by
    refine countP_prefix _ _ _ hm (fun i hi => ?_) (fun i h1 h2 => ?_)
    · have := m1 i (by omega) hi; rw [hd i (by omega)]; simpa using this
    · have := m2 i h2 h1; rw [hd i h2]; simp at this ⊢; omega
  rw [e]; exact ⟨hm, m1, fun i hi h => Int.not_le.1 (m2 i hi h)⟩
end Go.Proofs.YtanaoohgpdcfjaaGreatDoor
