/- The next time at which clocks show a second of the day, in plain Lean. Nothing of the program here. -/
import Derived.Test.YtgnodiegippkeaaWfP
namespace Go.Proofs.Ytgnodiegippkeaa
set_option linter.unusedVariables false
/-- what Next finds in a piece -/
def nxF (after : Int) (p : Pc) : Int := max p.1 (after + 1)
def nxW (after second : Int) (p : Pc) : Int := (second - (nxF after p + p.2.2) % 86400) % 86400
def nxP (after second : Int) (p : Pc) : Option Int := if nxF after p < p.2.1 ∧ nxF after p + nxW after second p < p.2.1 then some (nxF after p + nxW after second p) else none
theorem nxP_some {after second : Int} {p : Pc} {r : Int} (h : nxP after second p = some r) (h1 : 0 ≤ second) (h2 : second < 86400) :
    p.1 ≤ r ∧ r < p.2.1 ∧ after < r ∧ (r + p.2.2) % 86400 = second ∧ ∀ t, p.1 ≤ t → after < t → (t + p.2.2) % 86400 = second → r ≤ t := by
  unfold nxP at h
  split at h
  · rename_i hc
    simp only [Option.some.injEq] at h
    have hw : nxW after second p = (second - (nxF after p + p.2.2) % 86400) % 86400 := rfl
    have hf : nxF after p = max p.1 (after + 1) := rfl
    generalize nxW after second p = wt at *
    generalize nxF after p = f at *
    have hf1 : p.1 ≤ f := by omega
    have hf2 : after + 1 ≤ f := by omega
    refine ⟨by omega, by omega, by omega, by omega, fun t t1 t2 t3 => ?_⟩
    have : f ≤ t := by omega
    omega
  · cases h
theorem nxP_none {after second : Int} {p : Pc} (h : nxP after second p = none) (h1 : 0 ≤ second) (h2 : second < 86400) (t : Int) (t1 : p.1 ≤ t) (t2 : t < p.2.1) (t3 : after < t) : ¬ (t + p.2.2) % 86400 = second := by
  unfold nxP at h
  split at h
  · cases h
  · rename_i hc
    intro e
    have hw : nxW after second p = (second - (nxF after p + p.2.2) % 86400) % 86400 := rfl
    have hf : nxF after p = max p.1 (after + 1) := rfl
    generalize nxW after second p = wt at *
    generalize nxF after p = f at *
    have : f ≤ t := by omega
    apply hc
    constructor <;> omega
/-- the first time behind 'after' at which clocks show that second -/
structure NxLeast (ts : List Ty) (first : Int) (cs : List Ch) (after second r : Int) : Prop where
  gt : after < r
  hi : r ≤ 1099511714200
  at_ : (r + offT ts first cs r) % 86400 = second
  least : ∀ t, after < t → t < highT → (t + offT ts first cs t) % 86400 = second → r ≤ t
theorem nx_last {ts : List Ty} {first : Int} {cs : List Ch} (h : TabOk ts first cs) {after second : Int} (a1 : -1099511627776 ≤ after) (a2 : after ≤ 1099511627776) (h1 : 0 ≤ second) (h2 : second < 86400) :
    ∃ r, nxP after second (pcAt ts first cs cs.length) = some r ∧ r ≤ 1099511714200 := by
  have r1 := pcFrom_range h (Nat.le_refl cs.length)
  have e : pcTo cs cs.length = 4611686018427387903 := pcTo_last
  unfold nxP
  have hw : nxW after second (pcAt ts first cs cs.length) = (second - (nxF after (pcAt ts first cs cs.length) + (pcAt ts first cs cs.length).2.2) % 86400) % 86400 := rfl
  have hf : nxF after (pcAt ts first cs cs.length) = max (pcFrom cs cs.length) (after + 1) := rfl
  have ht : (pcAt ts first cs cs.length).2.1 = 4611686018427387903 := e
  generalize nxW after second (pcAt ts first cs cs.length) = wt at *
  generalize nxF after (pcAt ts first cs cs.length) = f at *
  rw [ht, if_pos ⟨by omega, by omega⟩]
  exact ⟨_, rfl, by omega⟩
theorem nx_stop {ts : List Ty} {first : Int} {cs : List Ch} (h : TabOk ts first cs) {after second : Int} (a1 : -1099511627776 ≤ after) (a2 : after ≤ 1099511627776) (h1 : 0 ≤ second) (h2 : second < 86400)
    {j : Nat} (hj : j ≤ cs.length) {r : Int} (hn : ∀ i, i < j → nxP after second (pcAt ts first cs i) = none) (hs : nxP after second (pcAt ts first cs j) = some r) : NxLeast ts first cs after second r := by
  have key : ∀ {k : Nat} {q : Int}, k ≤ cs.length → nxP after second (pcAt ts first cs k) = some q → after < q ∧ q < highT ∧ (q + offT ts first cs q) % 86400 = second := by
    intro k q hk hq
    obtain ⟨s1, s2, s3, s4, _⟩ := nxP_some hq h1 h2
    simp only [pcAt] at s1 s2 s4
    rw [offT_pc h hk s1 s2]
    have := pcTo_range h k
    exact ⟨s3, by omega, s4⟩
  have least : ∀ t, after < t → t < highT → (t + offT ts first cs t) % 86400 = second → r ≤ t := by
    intro t t1 t2 t3
    obtain ⟨i, hi, i1, i2⟩ := pc_ex h (show lowT ≤ t by unfold lowT; omega) t2
    rw [offT_pc h hi i1 i2] at t3
    obtain ⟨s1, s2, s3, s4, s5⟩ := nxP_some hs h1 h2
    rcases Nat.lt_trichotomy i j with hij | hij | hij
    · exact absurd t3 (nxP_none (hn i hij) h1 h2 t i1 i2 t1)
    · subst hij; exact s5 t i1 t1 t3
    · have := pc_le h hi hij
      simp only [pcAt] at s2
      omega
  obtain ⟨k1, k2, k3⟩ := key hj hs
  obtain ⟨q, hq, hq2⟩ := nx_last h a1 a2 h1 h2
  obtain ⟨q1, q2, q3⟩ := key (Nat.le_refl _) hq
  have := least q q1 q2 q3
  exact ⟨k1, by omega, k3, least⟩
theorem nx_uniq {ts : List Ty} {first : Int} {cs : List Ch} {after second r q : Int} (h : NxLeast ts first cs after second r) (g : NxLeast ts first cs after second q) : r = q := by
  have a := h.least q g.gt (by have := g.hi; unfold highT; omega) g.at_
  have b := g.least r h.gt (by have := h.hi; unfold highT; omega) h.at_
  omega
/-- the reference's candidate of a type on a day that begins at t0 -/
def nxC (t0 second : Int) (x : Ty) : Int := t0 + (second - t0 - x.1) % 86400
/-- the best one so far -/
def nxB (ts : List Ty) (first : Int) (cs : List Ch) (t0 second : Int) (k : Nat) : Option Int :=
  (ts.take k).foldl (fun acc x => if offT ts first cs (nxC t0 second x) = x.1 ∧ (∀ b, acc = some b → nxC t0 second x < b) then some (nxC t0 second x) else acc) none
theorem nxB_succ {ts : List Ty} (first : Int) (cs : List Ch) (t0 second : Int) {k : Nat} (h : k < ts.length) : nxB ts first cs t0 second (k + 1) =
    if offT ts first cs (nxC t0 second ts[k]) = ts[k].1 ∧ (∀ b, nxB ts first cs t0 second k = some b → nxC t0 second ts[k] < b) then some (nxC t0 second ts[k]) else nxB ts first cs t0 second k := by
  unfold nxB; rw [List.take_succ_eq_append_getElem h, List.foldl_append]; rfl
theorem nxB_none {ts : List Ty} {first : Int} {cs : List Ch} {t0 second : Int} : ∀ {k : Nat}, k ≤ ts.length → nxB ts first cs t0 second k = none → ∀ i (hi : i < ts.length), i < k → ¬ offT ts first cs (nxC t0 second ts[i]) = ts[i].1
  | 0, _, _, i, _, h => absurd h (by omega)
  | k + 1, hk, h, i, hi, hik => by
    rw [nxB_succ first cs t0 second (show k < ts.length by omega)] at h
    split at h
    · cases h
    · rename_i hc
      by_cases e : i = k
      · subst e
        intro hv
        exact hc ⟨hv, fun b hb => by rw [h] at hb; cases hb⟩
      · exact nxB_none (by omega) h i hi (by omega)
theorem nxB_some {ts : List Ty} {first : Int} {cs : List Ch} {t0 second : Int} : ∀ {k : Nat} {b : Int}, k ≤ ts.length → nxB ts first cs t0 second k = some b →
    (∃ i, ∃ hi : i < ts.length, i < k ∧ offT ts first cs (nxC t0 second ts[i]) = ts[i].1 ∧ b = nxC t0 second ts[i]) ∧ ∀ i (hi : i < ts.length), i < k → offT ts first cs (nxC t0 second ts[i]) = ts[i].1 → b ≤ nxC t0 second ts[i]
  | 0, b, _, h => by simp [nxB] at h
  | k + 1, b, hk, h => by
    rw [nxB_succ first cs t0 second (show k < ts.length by omega)] at h
    split at h
    · rename_i hc
      simp only [Option.some.injEq] at h
      subst h
      refine ⟨⟨k, by omega, by omega, hc.1, rfl⟩, fun i hi hik hv => ?_⟩
      by_cases e : i = k
      · subst e; exact Int.le_refl _
      · cases hb : nxB ts first cs t0 second k with
        | none => exact absurd hv (nxB_none (by omega) hb i hi (by omega))
        | some b' =>
          have h1 := hc.2 b' hb
          have h2 := (nxB_some (by omega) hb).2 i hi (by omega) hv
          omega
    · rename_i hc
      obtain ⟨⟨i, hi, hik, hv, e⟩, hm⟩ := nxB_some (show k ≤ ts.length by omega) h
      refine ⟨⟨i, hi, by omega, hv, e⟩, fun i' hi' hik' hv' => ?_⟩
      by_cases e' : i' = k
      · subst e'
        rcases Int.lt_or_le (nxC t0 second ts[i']) b with hlt | hge
        · exact absurd ⟨hv', fun b' hb' => by rw [h] at hb'; injection hb' with hb'; omega⟩ hc
        · exact hge
      · exact hm i' hi' (by omega) hv'
/-- a day on which none is found: the next one lies behind it -/
theorem nx_day_none {ts : List Ty} {first : Int} {cs : List Ch} (h : TabOk ts first cs) {after second r t0 : Int} (hr : NxLeast ts first cs after second r) (h1 : 0 ≤ second) (h2 : second < 86400) (hge : t0 ≤ r)
    (hn : nxB ts first cs t0 second ts.length = none) : t0 + 86400 ≤ r := by
  rcases Int.lt_or_le r (t0 + 86400) with hlt | hle
  · exfalso
    obtain ⟨x, hx, hxe⟩ := offT_mem h r
    obtain ⟨i, hi, rfl⟩ := List.mem_iff_getElem.1 hx
    have hat := hr.at_
    rw [← hxe] at hat
    have e : nxC t0 second ts[i] = r := by unfold nxC; omega
    exact nxB_none (Nat.le_refl _) hn i hi hi (by rw [e, hxe])
  · exact hle
/-- a day on which one is found: it is the next one -/
theorem nx_day_some {ts : List Ty} {first : Int} {cs : List Ch} (h : TabOk ts first cs) {after second r t0 b : Int} (hr : NxLeast ts first cs after second r) (h1 : 0 ≤ second) (h2 : second < 86400) (ha : after < t0) (hge : t0 ≤ r)
    (hn : nxB ts first cs t0 second ts.length = some b) : b = r := by
  obtain ⟨⟨i, hi, _, hv, e⟩, hm⟩ := nxB_some (Nat.le_refl _) hn
  have hb0 : t0 ≤ b ∧ b < t0 + 86400 := by rw [e]; unfold nxC; omega
  have hbS : (b + offT ts first cs b) % 86400 = second := by
    rw [e, hv]; unfold nxC; omega
  have hri := hr.hi
  have hle := hr.least b (by omega) (by unfold highT; omega) hbS
  obtain ⟨x, hx, hxe⟩ := offT_mem h r
  obtain ⟨i', hi', rfl⟩ := List.mem_iff_getElem.1 hx
  have hat := hr.at_
  rw [← hxe] at hat
  have e' : nxC t0 second ts[i'] = r := by unfold nxC; omega
  have := hm i' hi' hi' (by rw [e', hxe])
  omega
end Go.Proofs.Ytgnodiegippkeaa
