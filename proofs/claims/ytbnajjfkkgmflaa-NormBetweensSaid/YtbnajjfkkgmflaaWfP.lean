/- The pieces of a table in plain Lean, and the times that have a local time. Nothing of the program here. -/
import Derived.Test.YtbnajjfkkgmflaaTabQ
namespace Go.Proofs.Ytbnajjfkkgmflaa
set_option linter.unusedVariables false
def lowT : Int := -4611686018427387904
def highT : Int := 4611686018427387903
/-- a piece: from, to, offset -/
abbrev Pc := Int × Int × Int
def offK (ts : List Ty) (k : Int) : Int := (ts.getD k.toNat tyZero).1
def pcFrom (cs : List Ch) (j : Nat) : Int := if j = 0 then lowT else (cs.getD (j - 1) (0, 0)).1
def pcK (first : Int) (cs : List Ch) (j : Nat) : Int := if j = 0 then first else (cs.getD (j - 1) (0, 0)).2
def pcTo (cs : List Ch) (j : Nat) : Int := if j < cs.length then (cs.getD j (0, 0)).1 else highT
def pcAt (ts : List Ty) (first : Int) (cs : List Ch) (j : Nat) : Pc := (pcFrom cs j, pcTo cs j, offK ts (pcK first cs j))
def pcUp (ts : List Ty) (first : Int) (cs : List Ch) (n : Nat) : List Pc := (List.range n).map (pcAt ts first cs)
theorem pcUp_succ (ts : List Ty) (first : Int) (cs : List Ch) (n : Nat) : pcUp ts first cs (n + 1) = pcUp ts first cs n ++ [pcAt ts first cs n] := by simp [pcUp, List.range_succ]
theorem pcUp_length (ts : List Ty) (first : Int) (cs : List Ch) (n : Nat) : (pcUp ts first cs n).length = n := by simp [pcUp]
abbrev pcAll (ts : List Ty) (first : Int) (cs : List Ch) : List Pc := pcUp ts first cs (cs.length + 1)
theorem getD_ch {cs : List Ch} {i : Nat} (h : i < cs.length) : cs.getD i (0, 0) = cs[i] := by simp [List.getD, h]
theorem pcFrom_succ {cs : List Ch} {j : Nat} (h : j < cs.length) : pcFrom cs (j + 1) = cs[j].1 := by simp [pcFrom, h]
theorem pcTo_lt {cs : List Ch} {j : Nat} (h : j < cs.length) : pcTo cs j = cs[j].1 := by simp [pcTo, h]
theorem pcTo_last {cs : List Ch} : pcTo cs cs.length = highT := by simp [pcTo]
theorem pcK_succ {first : Int} {cs : List Ch} {j : Nat} (h : j < cs.length) : pcK first cs (j + 1) = cs[j].2 := by simp [pcK, h]
theorem pcFrom_range {ts : List Ty} {first : Int} {cs : List Ch} (h : TabOk ts first cs) {j : Nat} (hj : j ≤ cs.length) : lowT ≤ pcFrom cs j ∧ pcFrom cs j ≤ 1099511627776 := by
  unfold pcFrom lowT
  by_cases h0 : j = 0
  · rw [if_pos h0]; omega
  · rw [if_neg h0, getD_ch (by omega)]; have := h.range _ (List.getElem_mem (show j - 1 < cs.length by omega)); omega
theorem pcTo_range {ts : List Ty} {first : Int} {cs : List Ch} (h : TabOk ts first cs) (j : Nat) : -1099511627776 ≤ pcTo cs j ∧ pcTo cs j ≤ highT := by
  unfold pcTo highT
  by_cases h0 : j < cs.length
  · rw [if_pos h0, getD_ch h0]; have := h.range _ (List.getElem_mem h0); omega
  · rw [if_neg h0]; omega
theorem pcK_range {ts : List Ty} {first : Int} {cs : List Ch} (h : TabOk ts first cs) {j : Nat} (hj : j ≤ cs.length) : 0 ≤ pcK first cs j ∧ pcK first cs j < ts.length := by
  unfold pcK
  by_cases h0 : j = 0
  · rw [if_pos h0]; exact ⟨h.first0, h.first1⟩
  · rw [if_neg h0, getD_ch (by omega)]; have := h.range _ (List.getElem_mem (show j - 1 < cs.length by omega)); omega
theorem pc_le {ts : List Ty} {first : Int} {cs : List Ch} (h : TabOk ts first cs) {i j : Nat} (hj : j ≤ cs.length) (hij : i < j) : pcTo cs i ≤ pcFrom cs j := by
  obtain ⟨j, rfl⟩ : ∃ k, j = k + 1 := ⟨j - 1, by omega⟩
  rw [pcFrom_succ (by omega), pcTo_lt (by omega)]
  by_cases e : i = j
  · subst e; exact Int.le_refl _
  · exact Int.le_of_lt (sorted_at h.sorted (by omega) (by omega))
/-- within a piece the table has the piece's type -/
theorem tyIx_pc {ts : List Ty} {first : Int} {cs : List Ch} (h : TabOk ts first cs) {j : Nat} (hj : j ≤ cs.length) {t : Int} (h1 : pcFrom cs j ≤ t) (h2 : t < pcTo cs j) : tyIx first cs t = pcK first cs j := by
  by_cases h0 : j = 0
  · subst h0
    rw [pcK, if_pos rfl]
    refine tyIx_none (fun c hc hle => ?_)
    obtain ⟨i, hi, rfl⟩ := List.mem_iff_getElem.1 hc
    rw [pcTo_lt (by omega)] at h2
    by_cases e : i = 0
    · subst e; omega
    · have := sorted_at h.sorted hi (show 0 < i by omega); omega
  · obtain ⟨j, rfl⟩ : ∃ k, j = k + 1 := ⟨j - 1, by omega⟩
    rw [pcK_succ (by omega)]
    rw [pcFrom_succ (by omega)] at h1
    refine tyIx_at j (by omega) h1 (fun i hi hji hle => ?_)
    have hto : pcTo cs (j + 1) = (cs[j + 1]'(by omega)).1 := pcTo_lt (by omega)
    by_cases e : i = j + 1
    · subst e; omega
    · have := sorted_at h.sorted hi (show j + 1 < i by omega); omega
def offT (ts : List Ty) (first : Int) (cs : List Ch) (t : Int) : Int := (tabOf ts first cs t).1
theorem offT_pc {ts : List Ty} {first : Int} {cs : List Ch} (h : TabOk ts first cs) {j : Nat} (hj : j ≤ cs.length) {t : Int} (h1 : pcFrom cs j ≤ t) (h2 : t < pcTo cs j) : offT ts first cs t = offK ts (pcK first cs j) := by
  rw [offT, tabOf, tyIx_pc h hj h1 h2]; rfl
/-- each time lies in a piece -/
theorem pc_ex {ts : List Ty} {first : Int} {cs : List Ch} (h : TabOk ts first cs) {t : Int} (h1 : lowT ≤ t) (h2 : t < highT) : ∃ j, j ≤ cs.length ∧ pcFrom cs j ≤ t ∧ t < pcTo cs j := by
  obtain ⟨c1, c2, c3⟩ := chCount_spec h.sorted t
  refine ⟨chCount cs t, c1, ?_, ?_⟩
  · unfold pcFrom
    by_cases h0 : chCount cs t = 0
    · rw [if_pos h0]; exact h1
    · rw [if_neg h0, getD_ch (by omega)]; exact c2 _ (by omega) (by omega)
  · unfold pcTo
    by_cases h0 : chCount cs t < cs.length
    · rw [if_pos h0, getD_ch h0]; exact c3 _ h0 (Nat.le_refl _)
    · rw [if_neg h0]; exact h2
theorem offK_range {ts : List Ty} {first : Int} {cs : List Ch} (h : TabOk ts first cs) {k : Int} (h1 : 0 ≤ k) (h2 : k < ts.length) : -75600 ≤ offK ts k ∧ offK ts k ≤ 75600 := by
  have hn : k.toNat < ts.length := by omega
  have e : offK ts k = ts[k.toNat].1 := by unfold offK; simp [List.getD, hn]
  rw [e]
  have := h.types _ (List.getElem_mem hn)
  exact ⟨this.1, this.2.1⟩
theorem offK_mem {ts : List Ty} {first : Int} {cs : List Ch} (h : TabOk ts first cs) {k : Int} (h1 : 0 ≤ k) (h2 : k < ts.length) : ∃ x ∈ ts, x.1 = offK ts k := by
  have hn : k.toNat < ts.length := by omega
  exact ⟨ts[k.toNat], List.getElem_mem hn, by unfold offK; simp [List.getD, hn]⟩
theorem offT_range {ts : List Ty} {first : Int} {cs : List Ch} (h : TabOk ts first cs) (t : Int) : -75600 ≤ offT ts first cs t ∧ offT ts first cs t ≤ 75600 := by
  have hr := tyIx_range t h
  exact offK_range h hr.1 hr.2
theorem offT_mem {ts : List Ty} {first : Int} {cs : List Ch} (h : TabOk ts first cs) (t : Int) : ∃ x ∈ ts, x.1 = offT ts first cs t := by
  have hr := tyIx_range t h
  exact offK_mem h hr.1 hr.2
/-- two lists that rise and hold the same are the same -/
theorem rise_eq : ∀ {a b : List Int}, a.Pairwise (· < ·) → b.Pairwise (· < ·) → (∀ x, x ∈ a ↔ x ∈ b) → a = b
  | [], [], _, _, _ => rfl
  | [], y :: b, _, _, h => by have := (h y).2 (by simp); simp at this
  | x :: a, [], _, _, h => by have := (h x).1 (by simp); simp at this
  | x :: a, y :: b, ha, hb, h => by
    obtain ⟨a1, a2⟩ := List.pairwise_cons.1 ha
    obtain ⟨b1, b2⟩ := List.pairwise_cons.1 hb
    have e : x = y := by
      have hx := (h x).1 (by simp)
      have hy := (h y).2 (by simp)
      rcases List.mem_cons.1 hx with e | hx
      · exact e
      · rcases List.mem_cons.1 hy with e | hy
        · exact e.symm
        · have := a1 y hy; have := b1 x hx; omega
    subst e
    rw [rise_eq a2 b2 (fun z => ?_)]
    have hz := h z
    constructor
    · intro hm
      rcases List.mem_cons.1 (hz.1 (by simp [hm])) with e | hm2
      · have := a1 z hm; omega
      · exact hm2
    · intro hm
      rcases List.mem_cons.1 (hz.2 (by simp [hm])) with e | hm2
      · have := b1 z hm; omega
      · exact hm2
/-- what Find finds in a piece -/
def findP (l : Int) (p : Pc) : Option Int := if p.1 ≤ l - p.2.2 ∧ l - p.2.2 < p.2.1 then some (l - p.2.2) else none
def findL (l : Int) (ps : List Pc) : List Int := ps.filterMap (findP l)
theorem findL_hit {l : Int} {ps : List Pc} {p : Pc} (h1 : p.1 ≤ l - p.2.2) (h2 : l - p.2.2 < p.2.1) : findL l (ps ++ [p]) = findL l ps ++ [l - p.2.2] := by
  simp [findL, List.filterMap_append, findP, h1, h2]
theorem findL_miss {l : Int} {ps : List Pc} {p : Pc} (h : ¬ (p.1 ≤ l - p.2.2 ∧ l - p.2.2 < p.2.1)) : findL l (ps ++ [p]) = findL l ps := by
  simp [findL, List.filterMap_append, findP, h]
theorem findL_length (l : Int) (ps : List Pc) : (findL l ps).length ≤ ps.length := List.length_filterMap_le _ _
theorem findL_mem {ts : List Ty} {first : Int} {cs : List Ch} (h : TabOk ts first cs) (l t : Int) : t ∈ findL l (pcAll ts first cs) ↔ (lowT ≤ t ∧ t < highT) ∧ t + offT ts first cs t = l := by
  unfold findL pcAll pcUp
  simp only [List.mem_filterMap, List.mem_map, List.mem_range]
  constructor
  · rintro ⟨p, ⟨j, hj, rfl⟩, hp⟩
    unfold findP at hp
    split at hp
    · rename_i hc
      simp only [Option.some.injEq] at hp
      simp only [pcAt] at hc hp
      rw [hp] at hc
      have r1 := pcFrom_range h (show j ≤ cs.length by omega)
      have r2 := pcTo_range h j
      have := offT_pc h (show j ≤ cs.length by omega) hc.1 hc.2
      exact ⟨⟨by omega, by omega⟩, by omega⟩
    · cases hp
  · rintro ⟨⟨h1, h2⟩, e⟩
    obtain ⟨j, hj, j1, j2⟩ := pc_ex h h1 h2
    refine ⟨_, ⟨j, by omega, rfl⟩, ?_⟩
    have := offT_pc h hj j1 j2
    have e2 : l - offK ts (pcK first cs j) = t := by omega
    simp only [findP, pcAt, e2]
    rw [if_pos ⟨j1, j2⟩]
theorem findL_rise {ts : List Ty} {first : Int} {cs : List Ch} (h : TabOk ts first cs) (l : Int) : (findL l (pcAll ts first cs)).Pairwise (· < ·) := by
  unfold findL pcAll pcUp
  rw [List.pairwise_filterMap, List.pairwise_map]
  refine List.Pairwise.imp_of_mem ?_ List.pairwise_lt_range
  intro i j hi hj hij x hx y hy
  simp only [List.mem_range] at hi hj
  unfold findP at hx hy
  split at hx
  · split at hy
    · rename_i c1 c2
      simp only [Option.some.injEq] at hx hy
      simp only [pcAt] at c1 c2 hx hy
      have := pc_le h (show j ≤ cs.length by omega) hij
      omega
    · cases hy
  · cases hx
/-- what the reference tries: by each offset that there is -/
def findR (ts : List Ty) (first : Int) (cs : List Ch) (l : Int) : List Int := ts.filterMap fun x => if offT ts first cs (l - x.1) = x.1 then some (l - x.1) else none
theorem findR_mem {ts : List Ty} {first : Int} {cs : List Ch} (h : TabOk ts first cs) (l t : Int) : t ∈ findR ts first cs l ↔ t + offT ts first cs t = l := by
  unfold findR
  simp only [List.mem_filterMap]
  constructor
  · rintro ⟨x, hx, hp⟩
    split at hp
    · rename_i hc
      simp only [Option.some.injEq] at hp
      rw [hp] at hc; omega
    · cases hp
  · intro e
    obtain ⟨x, hx, hxe⟩ := offT_mem h t
    refine ⟨x, hx, ?_⟩
    have e2 : l - x.1 = t := by omega
    rw [e2, if_pos hxe.symm]
/-- the law of Find -/
theorem find_law {ts : List Ty} {first : Int} {cs : List Ch} (h : TabOk ts first cs) {l : Int} (h1 : -1099511627776 ≤ l) (h2 : l ≤ 1099511627776) {s : List Int} (hs : s.Pairwise (· < ·)) (hm : ∀ x, x ∈ s ↔ x ∈ findR ts first cs l) : findL l (pcAll ts first cs) = s := by
  refine rise_eq (findL_rise h l) hs (fun x => ?_)
  rw [hm, findR_mem h, findL_mem h]
  constructor
  · exact fun a => a.2
  · intro e
    have := offT_range h x
    unfold lowT highT
    exact ⟨⟨by omega, by omega⟩, e⟩
end Go.Proofs.Ytbnajjfkkgmflaa
