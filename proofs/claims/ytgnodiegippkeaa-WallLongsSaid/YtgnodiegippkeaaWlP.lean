/- How long a day is, in plain Lean: by pieces and between all times at which it may begin or end. Nothing of the program here. -/
import Derived.Test.YtgnodiegippkeaaWfP
namespace Go.Proofs.Ytgnodiegippkeaa
set_option linter.unusedVariables false
/-- so many of the k times from a on -/
def cnt (P : Int → Bool) (a : Int) (k : Nat) : Nat := (List.range k).countP fun i : Nat => P (a + (i : Int))
theorem cnt_add (P : Int → Bool) (a : Int) (k m : Nat) : cnt P a (k + m) = cnt P a k + cnt P (a + k) m := by
  unfold cnt
  rw [List.range_add, List.countP_append, List.countP_map]
  congr 1
  congr 1
  funext i
  show P (a + ((k + i : Nat) : Int)) = P (a + (k : Int) + (i : Int))
  congr 1
  omega
theorem cnt_all {P : Int → Bool} {a : Int} {k : Nat} (h : ∀ t, a ≤ t → t < a + k → P t = true) : cnt P a k = k := by
  unfold cnt
  rw [List.countP_eq_length.2 (fun i hi => h _ (by omega) (by have : i < k := by simpa using hi
                                                              omega)), List.length_range]
theorem cnt_none {P : Int → Bool} {a : Int} {k : Nat} (h : ∀ t, a ≤ t → t < a + k → P t = false) : cnt P a k = 0 := by
  unfold cnt
  rw [List.countP_eq_zero]
  intro i hi
  have : i < k := by simpa using hi
  simp [h (a + i) (by omega) (by omega)]
def cntI (P : Int → Bool) (a b : Int) : Int := (cnt P a (b - a).toNat : Nat)
theorem cntI_add (P : Int → Bool) {a b c : Int} (h1 : a ≤ b) (h2 : b ≤ c) : cntI P a c = cntI P a b + cntI P b c := by
  unfold cntI
  rw [show (c - a).toNat = (b - a).toNat + (c - b).toNat by omega, cnt_add, show a + ((b - a).toNat : Int) = b by omega]
  omega
theorem cntI_all {P : Int → Bool} {a b : Int} (hab : a ≤ b) (h : ∀ t, a ≤ t → t < b → P t = true) : cntI P a b = b - a := by
  unfold cntI; rw [cnt_all (fun t h1 h2 => h t h1 (by omega))]; omega
theorem cntI_none {P : Int → Bool} {a b : Int} (h : ∀ t, a ≤ t → t < b → P t = false) : cntI P a b = 0 := by
  unfold cntI
  rw [cnt_none (fun t h1 h2 => h t h1 (by omega))]; rfl
theorem cntI_self (P : Int → Bool) (a : Int) : cntI P a a = 0 := cntI_none (fun t h1 h2 => by omega)
theorem cntI_span {P : Int → Bool} {a b u v : Int} (hab : a ≤ b) (hp : ∀ t, a ≤ t → t < b → P t = decide (u ≤ t ∧ t < v)) : cntI P a b = max 0 (min b v - max a u) := by
  by_cases hc : max a u ≤ min b v
  · rw [cntI_add P (show a ≤ max a u by omega) (show max a u ≤ b by omega), cntI_add P hc (show min b v ≤ b by omega)]
    rw [cntI_none (fun t h1 h2 => by rw [hp t h1 (by omega)]; exact decide_eq_false (by omega)), cntI_all hc (fun t h1 h2 => by rw [hp t (by omega) (by omega)]; exact decide_eq_true (by omega)),
      cntI_none (fun t h1 h2 => by rw [hp t (by omega) h2]; exact decide_eq_false (by omega))]
    omega
  · rw [cntI_none (fun t h1 h2 => by rw [hp t h1 h2]; exact decide_eq_false (by omega))]
    omega
/-- is that time within the day n? -/
def lgIs (ts : List Ty) (first : Int) (cs : List Ch) (n t : Int) : Bool := decide (86400 * n ≤ t + offT ts first cs t ∧ t + offT ts first cs t < 86400 * (n + 1))
def lgP (n : Int) (p : Pc) : Int := max 0 (min p.2.1 (86400 * (n + 1) - p.2.2) - max p.1 (86400 * n - p.2.2))
def lgL (n : Int) (ps : List Pc) : Int := ps.foldl (fun s p => s + lgP n p) 0
theorem lgL_snoc (n : Int) (ps : List Pc) (p : Pc) : lgL n (ps ++ [p]) = lgL n ps + lgP n p := by unfold lgL; rw [List.foldl_append]; rfl
theorem lgP_range (n : Int) (p : Pc) : 0 ≤ lgP n p ∧ lgP n p ≤ 86400 := by unfold lgP; omega
theorem lgL_range (n : Int) (ps : List Pc) : 0 ≤ lgL n ps ∧ lgL n ps ≤ 86400 * ps.length := by
  have : ∀ (qs : List Pc) (m : Int), m ≤ qs.foldl (fun s p => s + lgP n p) m ∧ qs.foldl (fun s p => s + lgP n p) m ≤ m + 86400 * qs.length := by
    intro qs
    induction qs with
    | nil => intro m; simp
    | cons p qs ih =>
      intro m
      have h1 := lgP_range n p
      have h2 := ih (m + lgP n p)
      simp only [List.foldl_cons, List.length_cons]
      omega
  have h := this ps 0
  unfold lgL; omega
theorem pc_from_le_to {ts : List Ty} {first : Int} {cs : List Ch} (h : TabOk ts first cs) {j : Nat} (hj : j ≤ cs.length) : pcFrom cs j ≤ pcTo cs j := by
  by_cases hl : j < cs.length
  · by_cases h0 : j = 0
    · subst h0
      have := pcTo_range h 0
      unfold pcFrom lowT; rw [if_pos rfl]; omega
    · obtain ⟨i, rfl⟩ : ∃ k, j = k + 1 := ⟨j - 1, by omega⟩
      rw [pcFrom_succ (by omega), pcTo_lt hl]
      exact Int.le_of_lt (sorted_at h.sorted hl (by omega))
  · obtain rfl : j = cs.length := by omega
    rw [pcTo_last]; have := pcFrom_range h (Nat.le_refl cs.length); unfold highT; omega
theorem lg_piece {ts : List Ty} {first : Int} {cs : List Ch} (h : TabOk ts first cs) (n : Int) {j : Nat} (hj : j ≤ cs.length) : lgP n (pcAt ts first cs j) = cntI (lgIs ts first cs n) (pcFrom cs j) (pcTo cs j) := by
  rw [cntI_span (pc_from_le_to h hj) (fun t h1 h2 => by
    unfold lgIs; rw [offT_pc h hj h1 h2]
    exact decide_eq_decide.2 (show _ ↔ (86400 * n - offK ts (pcK first cs j) ≤ t ∧ t < 86400 * (n + 1) - offK ts (pcK first cs j)) by omega))]
  rfl
theorem lg_up {ts : List Ty} {first : Int} {cs : List Ch} (h : TabOk ts first cs) (n : Int) : ∀ {k : Nat}, k ≤ cs.length → lgL n (pcUp ts first cs k) = cntI (lgIs ts first cs n) lowT (pcFrom cs k)
  | 0, _ => by
    have : pcFrom cs 0 = lowT := rfl
    rw [this, cntI_self]; rfl
  | k + 1, hk => by
    rw [pcUp_succ, lgL_snoc, lg_up h n (show k ≤ cs.length by omega), lg_piece h n (show k ≤ cs.length by omega)]
    have e : pcTo cs k = pcFrom cs (k + 1) := by rw [pcFrom_succ (by omega), pcTo_lt (by omega)]
    rw [e]
    exact (cntI_add _ (pcFrom_range h (show k ≤ cs.length by omega)).1 (by rw [← e]; exact pc_from_le_to h (by omega))).symm
theorem lg_all {ts : List Ty} {first : Int} {cs : List Ch} (h : TabOk ts first cs) (n : Int) : lgL n (pcAll ts first cs) = cntI (lgIs ts first cs n) lowT highT := by
  unfold pcAll
  rw [pcUp_succ, lgL_snoc, lg_up h n (Nat.le_refl _), lg_piece h n (Nat.le_refl _)]
  have e : pcTo cs cs.length = highT := pcTo_last
  rw [e]
  exact (cntI_add _ (pcFrom_range h (Nat.le_refl cs.length)).1 (by rw [← e]; exact pc_from_le_to h (Nat.le_refl _))).symm
/-- at that time a day may begin or end -/
def lgBp (ts : List Ty) (cs : List Ch) (n b : Int) : Prop := (∃ x ∈ ts, b = 86400 * n - x.1 ∨ b = 86400 * (n + 1) - x.1) ∨ ∃ c ∈ cs, b = c.1 ∧ 86400 * n - 80000 < c.1 ∧ c.1 < 86400 * (n + 1) + 80000
theorem lg_step {ts : List Ty} {first : Int} {cs : List Ch} (h : TabOk ts first cs) (n : Int) {t : Int} (h1 : lowT ≤ t) (h2 : t + 1 < highT) (hne : lgIs ts first cs n t ≠ lgIs ts first cs n (t + 1)) : lgBp ts cs n (t + 1) := by
  obtain ⟨j, hj, j1, j2⟩ := pc_ex h h1 (show t < highT by omega)
  have o1 := offT_range h t
  have o2 := offT_range h (t + 1)
  have e1 := offT_pc h hj j1 j2
  unfold lgIs at hne
  by_cases hin : t + 1 < pcTo cs j
  · have e2 := offT_pc h hj (show pcFrom cs j ≤ t + 1 by omega) hin
    obtain ⟨x, hx, hxe⟩ := offT_mem h t
    left
    refine ⟨x, hx, ?_⟩
    rw [e2, ← e1, ← hxe] at hne
    rw [Ne, decide_eq_decide] at hne
    omega
  · right
    have hjl : j < cs.length := by
      rcases Nat.lt_or_ge j cs.length with hl | hl
      · exact hl
      · obtain rfl : j = cs.length := by omega
        rw [pcTo_last] at hin; omega
    have e3 := pcTo_lt hjl
    refine ⟨cs[j], List.getElem_mem hjl, by omega, ?_⟩
    rw [Ne, decide_eq_decide] at hne
    omega
theorem lg_const {ts : List Ty} {first : Int} {cs : List Ch} (h : TabOk ts first cs) (n : Int) {a b : Int} (h1 : lowT ≤ a) (h2 : b ≤ highT) (hn : ∀ t, a < t → t < b → ¬ lgBp ts cs n t) : ∀ t, a ≤ t → t < b → lgIs ts first cs n t = lgIs ts first cs n a := by
  have ind : ∀ k : Nat, a + k < b → lgIs ts first cs n (a + k) = lgIs ts first cs n a := by
    intro k
    induction k with
    | zero => intro _; simp
    | succ k ih =>
      intro hk
      have hk' : a + (k : Int) < b := by omega
      rw [← ih hk']
      have e : a + ((k + 1 : Nat) : Int) = a + (k : Int) + 1 := by omega
      rw [e]
      by_cases hne : lgIs ts first cs n (a + k) = lgIs ts first cs n (a + k + 1)
      · exact hne.symm
      · exact absurd (lg_step h n (show lowT ≤ a + (k : Int) by omega) (by omega) hne) (hn _ (by omega) (by omega))
  intro t t1 t2
  have := ind (t - a).toNat (by omega)
  rwa [show a + ((t - a).toNat : Int) = t by omega] at this
/-- what the reference adds when the k-th breakpoint has come -/
def lgR (ts : List Ty) (first : Int) (cs : List Ch) (n : Int) (s : List Int) (k : Nat) : Int := (List.range k).foldl (fun m i => if lgIs ts first cs n (s.getD i 0) then m + (s.getD (i + 1) 0 - s.getD i 0) else m) 0
theorem lgR_succ (ts : List Ty) (first : Int) (cs : List Ch) (n : Int) (s : List Int) (k : Nat) : lgR ts first cs n s (k + 1) = if lgIs ts first cs n (s.getD k 0) then lgR ts first cs n s k + (s.getD (k + 1) 0 - s.getD k 0) else lgR ts first cs n s k := by
  unfold lgR; rw [List.range_succ, List.foldl_append]; rfl
theorem lgBp_range {ts : List Ty} {first : Int} {cs : List Ch} (h : TabOk ts first cs) {n b : Int} (hb : lgBp ts cs n b) : 86400 * n - 80000 < b ∧ b < 86400 * (n + 1) + 80000 := by
  rcases hb with ⟨x, hx, hb⟩ | ⟨c, _, rfl, h1, h2⟩
  · have := h.types x hx; omega
  · exact ⟨h1, h2⟩
theorem lg_ref {ts : List Ty} {first : Int} {cs : List Ch} (h : TabOk ts first cs) {n : Int} (n1 : -10000000 ≤ n) (n2 : n ≤ 10000000) {s : List Int} (hs : s.Pairwise (· < ·)) (hm : ∀ b, b ∈ s ↔ lgBp ts cs n b) :
    0 < s.length ∧ lgR ts first cs n s (s.length - 1) = lgL n (pcAll ts first cs) := by
  have hpos : 0 < s.length := by
    obtain ⟨x, hx⟩ : ∃ x, x ∈ ts := ⟨_, List.getElem_mem h.tpos⟩
    have := (hm (86400 * n - x.1)).2 (Or.inl ⟨x, hx, Or.inl rfl⟩)
    exact List.length_pos_of_mem this
  refine ⟨hpos, ?_⟩
  have hd : ∀ i (hi : i < s.length), s.getD i 0 = s[i] := fun i hi => by simp [List.getD, hi]
  have hlt : ∀ i j (hj : j < s.length) (hij : i < j), (s[i]'(by omega)) < s[j] := fun i j hj hij => (List.pairwise_iff_getElem.1 hs) i j (by omega) hj hij
  have hle : ∀ i j (hj : j < s.length) (hij : i ≤ j), (s[i]'(by omega)) ≤ s[j] := fun i j hj hij => by
    by_cases e : i = j
    · subst e; exact Int.le_refl _
    · exact Int.le_of_lt (hlt i j hj (by omega))
  have hrange : ∀ i (hi : i < s.length), 86400 * n - 80000 < s[i] ∧ s[i] < 86400 * (n + 1) + 80000 := fun i hi => lgBp_range h ((hm _).1 (List.getElem_mem hi))
  have hgap : ∀ i (hi : i + 1 < s.length) t, s[i] < t → t < s[i + 1] → ¬ lgBp ts cs n t := by
    intro i hi t h1 h2 hb
    obtain ⟨k, hk, rfl⟩ := List.mem_iff_getElem.1 ((hm t).2 hb)
    rcases Nat.lt_or_ge i k with hik | hik
    · have := hle (i + 1) k hk (by omega); omega
    · have := hle k i (by omega) hik; omega
  have sum : ∀ k, k < s.length → lgR ts first cs n s k = cntI (lgIs ts first cs n) (s[0]) (s.getD k 0) := by
    intro k
    induction k with
    | zero => intro _; rw [hd 0 hpos, cntI_self]; rfl
    | succ k ih =>
      intro hk
      have hk' : k < s.length := by omega
      rw [lgR_succ, ih hk', hd k hk', hd (k + 1) hk, cntI_add _ (hle 0 k hk' (by omega)) (Int.le_of_lt (hlt k (k + 1) hk (by omega)))]
      have r1 := hrange k hk'
      have r2 := hrange (k + 1) hk
      have hc := lg_const h n (a := s[k]) (b := s[k + 1]) (by unfold lowT; omega) (by unfold highT; omega) (hgap k hk)
      cases hp : lgIs ts first cs n s[k] with
      | true => rw [if_pos rfl, cntI_all (Int.le_of_lt (hlt k (k + 1) hk (by omega))) (fun t t1 t2 => by rw [hc t t1 t2, hp])]
      | false => rw [if_neg (by simp), cntI_none (a := s[k]) (b := s[k + 1]) (fun t t1 t2 => by rw [hc t t1 t2, hp])]; omega
  have hl : s.length - 1 < s.length := by omega
  rw [sum _ hl, hd _ hl, lg_all h n]
  have r0 := hrange 0 hpos
  have rl := hrange (s.length - 1) hl
  have h0l := hle 0 (s.length - 1) hl (by omega)
  rw [cntI_add _ (show lowT ≤ s[0] by unfold lowT; omega) (show s[0] ≤ highT by unfold highT; omega), cntI_add _ h0l (show s[s.length - 1] ≤ highT by unfold highT; omega)]
  have z1 : cntI (lgIs ts first cs n) lowT s[0] = 0 := by
    refine cntI_none (fun t t1 t2 => ?_)
    rw [lg_const h n (a := lowT) (b := s[0]) (Int.le_refl _) (by unfold highT; omega) (fun q q1 q2 hb => by
      obtain ⟨k, hk, rfl⟩ := List.mem_iff_getElem.1 ((hm q).2 hb)
      have := hle 0 k hk (by omega); omega) t t1 t2]
    unfold lgIs
    have := offT_range h lowT
    exact decide_eq_false (by unfold lowT at *; omega)
  have z2 : cntI (lgIs ts first cs n) s[s.length - 1] highT = 0 := by
    refine cntI_none (fun t t1 t2 => ?_)
    have hc := lg_const h n (a := s[s.length - 1]) (b := highT) (by unfold lowT; omega) (Int.le_refl _) (fun q q1 q2 hb => by
      obtain ⟨k, hk, rfl⟩ := List.mem_iff_getElem.1 ((hm q).2 hb)
      have := hle k (s.length - 1) hl (by omega); omega)
    have e := hc (highT - 1) (by unfold highT; omega) (by omega)
    rw [hc t t1 t2, ← e]
    unfold lgIs
    have := offT_range h (highT - 1)
    exact decide_eq_false (by unfold highT at *; omega)
  rw [z1, z2]; omega
/-- the reference's list of breakpoints, as it is built -/
def lgA (ts : List Ty) (n : Int) (k : Nat) : List Int := (ts.take k).flatMap fun x => [86400 * n - x.1, 86400 * (n + 1) - x.1]
def lgC (cs : List Ch) (n : Int) (k : Nat) : List Int := (cs.take k).filterMap fun c => if 86400 * n - 80000 < c.1 ∧ c.1 < 86400 * (n + 1) + 80000 then some c.1 else none
theorem lgA_succ {ts : List Ty} (n : Int) {k : Nat} (h : k < ts.length) : lgA ts n (k + 1) = lgA ts n k ++ [86400 * n - ts[k].1, 86400 * (n + 1) - ts[k].1] := by
  unfold lgA; rw [List.take_succ_eq_append_getElem h, List.flatMap_append]; simp
theorem lgC_hit {cs : List Ch} {n : Int} {k : Nat} (h : k < cs.length) (h1 : 86400 * n - 80000 < cs[k].1) (h2 : cs[k].1 < 86400 * (n + 1) + 80000) : lgC cs n (k + 1) = lgC cs n k ++ [cs[k].1] := by
  unfold lgC; rw [List.take_succ_eq_append_getElem h, List.filterMap_append]; simp [h1, h2]
theorem lgC_miss {cs : List Ch} {n : Int} {k : Nat} (h : k < cs.length) (h1 : ¬ (86400 * n - 80000 < cs[k].1 ∧ cs[k].1 < 86400 * (n + 1) + 80000)) : lgC cs n (k + 1) = lgC cs n k := by
  unfold lgC; rw [List.take_succ_eq_append_getElem h, List.filterMap_append]; simp [h1]
theorem lgA_length : ∀ {ts : List Ty} {n : Int} {k : Nat}, k ≤ ts.length → (lgA ts n k).length = 2 * k
  | ts, n, 0, _ => by simp [lgA]
  | ts, n, k + 1, h => by rw [lgA_succ n (by omega), List.length_append, lgA_length (by omega)]; simp; omega
theorem lgC_length (cs : List Ch) (n : Int) (k : Nat) : (lgC cs n k).length ≤ k := by
  unfold lgC; refine Nat.le_trans (List.length_filterMap_le _ _) ?_; rw [List.length_take]; omega
theorem lg_mem (ts : List Ty) (cs : List Ch) (n b : Int) : b ∈ lgA ts n ts.length ++ lgC cs n cs.length ↔ lgBp ts cs n b := by
  unfold lgA lgC lgBp
  rw [List.mem_append, List.take_length, List.take_length]
  simp only [List.mem_flatMap, List.mem_filterMap, List.mem_cons, List.not_mem_nil, or_false]
  constructor
  · rintro (h | ⟨c, hc, he⟩)
    · exact Or.inl h
    · split at he
      · rename_i hh
        simp only [Option.some.injEq] at he
        exact Or.inr ⟨c, hc, he.symm, hh.1, hh.2⟩
      · cases he
  · rintro (h | ⟨c, hc, rfl, h1, h2⟩)
    · exact Or.inl h
    · exact Or.inr ⟨c, hc, by rw [if_pos ⟨h1, h2⟩]⟩
theorem lgR_range {ts : List Ty} {first : Int} {cs : List Ch} {n : Int} {s : List Int} (hs : s.Pairwise (· < ·)) : ∀ {k : Nat}, k < s.length → 0 ≤ lgR ts first cs n s k ∧ lgR ts first cs n s k ≤ s.getD k 0 - s.getD 0 0
  | 0, _ => by simp [lgR]
  | k + 1, hk => by
    have ih := lgR_range (ts := ts) (first := first) (cs := cs) (n := n) hs (show k < s.length by omega)
    have hlt := (List.pairwise_iff_getElem.1 hs) k (k + 1) (by omega) hk (by omega)
    have e1 : s.getD k 0 = s[k] := by simp [List.getD, show k < s.length by omega]
    have e2 : s.getD (k + 1) 0 = s[k + 1] := by simp [List.getD, hk]
    rw [lgR_succ]
    split <;> omega
end Go.Proofs.Ytgnodiegippkeaa
