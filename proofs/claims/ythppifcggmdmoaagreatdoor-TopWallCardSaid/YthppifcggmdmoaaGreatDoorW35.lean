/- Part 35 of the proof of TopWall: no condition; what its declarations say stands at each. -/
import Derived.Test.YthppifcggmdmoaaGreatDoorW04
import Derived.Test.YthppifcggmdmoaaGreatDoorW02
import Derived.Test.YthppifcggmdmoaaGreatDoorW01
import Derived.Deep.RegionHeld3
import Derived.Deep.DrawnRows
import Derived.Test.YthppifcggmdmoaaGreatDoorW14
namespace Go.Proofs.YthppifcggmdmoaaGreatDoor
set_option linter.unusedVariables false
structure TabOk (ts : List Ty) (first : Int) (cs : List Ch) : Prop where
 tpos : 0 < ts.length
 tmax : ts.length ≤ 250
 cmax : cs.length ≤ 1000
 types : ∀ t ∈ ts, -75600 ≤ t.1 ∧ t.1 ≤ 75600 ∧ isAbbrB t.2.2.data.toList = true
 first0 : 0 ≤ first
 first1 : first < ts.length
 range : ∀ c ∈ cs, -1099511627776 ≤ c.1 ∧ c.1 ≤ 1099511627776 ∧ 0 ≤ c.2 ∧ c.2 < ts.length
 sorted : cs.Pairwise (fun a b => a.1 < b.1)
theorem typesE_ok : ∀ {ts : List Ty}, typesE ts = 0 → ∀ t ∈ ts, -75600 ≤ t.1 ∧ t.1 ≤ 75600 ∧ isAbbrB t.2.2.data.toList = true
 | [], _, t, ht => by simp at ht
 | x :: r, h, t, ht => by
  unfold typesE at h
  by_cases h1 : -75600 ≤ x.1 ∧ x.1 ≤ 75600
  ·rw [if_neg (by simpa using h1)] at h
   cases h2 : isAbbrB x.2.2.data.toList with
   | false => rw [h2] at h; simp at h
   | true =>
    rw [h2] at h
    rcases List.mem_cons.1 ht with rfl | ht
    ·exact ⟨h1.1, h1.2, h2⟩
    ·exact typesE_ok (by simpa using h) t ht
  ·rw [if_pos h1] at h; omega
theorem changesE_ok {last : Int} : ∀ {cs : List Ch} {p : Option Int}, changesE last p cs = 0 → (∀ c ∈ cs, -1099511627776 ≤ c.1 ∧ c.1 ≤ 1099511627776 ∧ 0 ≤ c.2 ∧ c.2 ≤ last) ∧ cs.Pairwise (fun a b => a.1 < b.1) ∧ (∀ q, p = some q → ∀ c ∈ cs, q < c.1)
 | [], p, _ => ⟨by simp, List.Pairwise.nil, by simp⟩
 | x :: r, p, h => by
  unfold changesE at h
  by_cases h1 : -1099511627776 ≤ x.1 ∧ x.1 ≤ 1099511627776 ∧ 0 ≤ x.2 ∧ x.2 ≤ last
  ·have key : changesE last (some x.1) r = 0 ∧ (∀ q, p = some q → q < x.1) := by
    cases p with
    | none => rw [if_neg (by simpa using h1), if_neg (by simp)] at h; exact ⟨h, by simp⟩
    | some q =>
     rw [if_neg (by simpa using h1)] at h
     by_cases h2 : x.1 ≤ q
     ·rw [if_pos (by simpa using h2)] at h; omega
     ·rw [if_neg (by simpa using h2)] at h; exact ⟨h, fun q' e => by injection e; omega⟩
   obtain ⟨i1, i2, i3⟩ := changesE_ok key.1
   have i4 := i3 x.1 rfl
   refine ⟨fun c hc => ?_, List.Pairwise.cons i4 i2, fun q hq c hc => ?_⟩
   ·rcases List.mem_cons.1 hc with rfl | hc
    ·exact h1
    ·exact i1 c hc
   ·have h3 := key.2 q hq
    rcases List.mem_cons.1 hc with rfl | hc
    ·exact h3
    ·have := i4 c hc; omega
  ·rw [if_pos h1] at h; omega
theorem tabOk {ts : List Ty} {first : Int} {cs : List Ch} (h : tabE ts first cs = 0) : TabOk ts first cs := by
 by_cases h1 : ts.length > 250 ∨ cs.length > 1000
 ·rw [tabE_large h1] at h; omega
 ·by_cases h2 : ts.length = 0
  ·rw [tabE_form h1 h2] at h; omega
  ·by_cases h3 : typesE ts = 0
   ·by_cases h4 : 0 ≤ first ∧ first ≤ ts.length - 1
    ·rw [tabE_changes h1 h2 h3 h4] at h
     obtain ⟨i1, i2, _⟩ := changesE_ok h
     exact ⟨by omega, by omega, by omega, typesE_ok h3, h4.1, by omega, fun c hc => by have := i1 c hc; omega, i2⟩
    ·rw [tabE_first h1 h2 h3 h4] at h; omega
   ·rw [tabE_types h1 h2 h3] at h; exact absurd h h3
def tyIx (first : Int) (cs : List Ch) (time : Int) : Int := cs.foldl (fun k c => if c.1 ≤ time then c.2 else k) first
def tyZero : Ty := (0, false, ⟨#[]⟩)
def tabOf (ts : List Ty) (first : Int) (cs : List Ch) (time : Int) : Ty := ts.getD (tyIx first cs time).toNat tyZero
theorem tyIx_range {ts : List Ty} {first : Int} {cs : List Ch} (time : Int) (h : TabOk ts first cs) : 0 ≤ tyIx first cs time ∧ tyIx first cs time < ts.length := by
 have : ∀ (l : List Ch) (k : Int), (∀ c ∈ l, 0 ≤ c.2 ∧ c.2 < ts.length) → 0 ≤ k → k < ts.length → 0 ≤ l.foldl (fun k c => if c.1 ≤ time then c.2 else k) k ∧ l.foldl (fun k c => if c.1 ≤ time then c.2 else k) k < ts.length := by
  intro l
  induction l with
  | nil => intro k _ h1 h2; exact ⟨h1, h2⟩
  | cons c r ih =>
   intro k hc h1 h2
   have h3 := hc c (by simp)
   simp only [List.foldl_cons]
   by_cases h4 : c.1 ≤ time
   ·rw [if_pos h4]; exact ih _ (fun c hc' => hc c (by simp [hc'])) h3.1 h3.2
   ·rw [if_neg h4]; exact ih _ (fun c hc' => hc c (by simp [hc'])) h1 h2
 exact this cs first (fun c hc => ⟨(h.range c hc).2.2.1, (h.range c hc).2.2.2⟩) h.first0 h.first1
theorem tyIx_take_succ (first : Int) (cs : List Ch) (time : Int) (k : Nat) (h : k < cs.length) : tyIx first (cs.take (k + 1)) time = if cs[k].1 ≤ time then cs[k].2 else tyIx first (cs.take k) time := by
 unfold tyIx; rw [List.take_succ_eq_append_getElem h, List.foldl_append]; rfl
theorem tyIx_none {first : Int} {cs : List Ch} {time : Int} (h : ∀ c ∈ cs, ¬ c.1 ≤ time) : tyIx first cs time = first := by
 unfold tyIx
 induction cs with
 | nil => rfl
 | cons c r ih => rw [List.foldl_cons, if_neg (h c (by simp))]; exact ih (fun c hc => h c (by simp [hc]))
theorem tyIx_at {first : Int} {cs : List Ch} {time : Int} (k : Nat) (hk : k < cs.length) (h1 : cs[k].1 ≤ time) (h2 : ∀ j (hj : j < cs.length), k < j → ¬ cs[j].1 ≤ time) : tyIx first cs time = cs[k].2 := by
 have : tyIx first cs time = tyIx (tyIx first (cs.take (k + 1)) time) (cs.drop (k + 1)) time := by
  unfold tyIx; rw [← List.foldl_append, List.take_append_drop]
 rw [this, tyIx_none, tyIx_take_succ first cs time k hk, if_pos h1]
 intro c hc
 obtain ⟨i, hi, rfl⟩ := List.mem_iff_getElem.1 hc
 rw [List.getElem_drop]
 exact h2 _ _ (by omega)
theorem sorted_at {cs : List Ch} (h : cs.Pairwise (fun a b => a.1 < b.1)) {i j : Nat} (hj : j < cs.length) (hij : i < j) : (cs[i]'(by omega)).1 < cs[j].1 := (List.pairwise_iff_getElem.1 h) i j (by omega) hj hij
def chCount (cs : List Ch) (time : Int) : Nat := (List.range cs.length).countP (fun i => !decide (time < (cs.getD i (0, 0)).1))
theorem countP_prefix (n m : Nat) (p : Nat → Bool) (hm : m ≤ n) (h1 : ∀ i, i < m → p i = true) (h2 : ∀ i, m ≤ i → i < n → p i = false) : (List.range n).countP p = m := by
 rw [show n = m + (n - m) by omega, List.range_add, List.countP_append, List.countP_map]
 have a : (List.range m).countP p = m := by
  rw [List.countP_eq_length.2 (fun i hi => h1 i (by simpa using hi)), List.length_range]
 have b : (List.range (n - m)).countP (p ∘ (m + ·)) = 0 := by
  rw [List.countP_eq_zero]
  intro i hi
  have : i < n - m := by simpa using hi
  simp [h2 (m + i) (by omega) (by omega)]
 rw [a, b]; rfl
theorem chCount_spec {cs : List Ch} (h : cs.Pairwise (fun a b => a.1 < b.1)) (time : Int) : chCount cs time ≤ cs.length ∧ (∀ i (hi : i < cs.length), i < chCount cs time → cs[i].1 ≤ time) ∧ (∀ i (hi : i < cs.length), chCount cs time ≤ i → time < cs[i].1) := by
 have hd : ∀ i (hi : i < cs.length), (cs.getD i (0, 0)) = cs[i] := fun i hi => by simp [List.getD, hi]
 have : ∃ m, m ≤ cs.length ∧ (∀ i (hi : i < cs.length), i < m → cs[i].1 ≤ time) ∧ (∀ i (hi : i < cs.length), m ≤ i → ¬ cs[i].1 ≤ time) := by
  have ind : ∀ n, n ≤ cs.length → ∃ m, m ≤ n ∧ (∀ i (hi : i < cs.length), i < m → cs[i].1 ≤ time) ∧ (∀ i (hi : i < cs.length), m ≤ i → i < n → ¬ cs[i].1 ≤ time) := by
   intro n
   induction n with
   | zero => intro _; exact ⟨0, by omega, fun i _ h => by omega, fun i _ _ h => by omega⟩
   | succ n ih =>
    intro hn
    obtain ⟨m, hm, m1, m2⟩ := ih (by omega)
    by_cases hmn : m = n
    ·by_cases hx : (cs[n]'(by omega)).1 ≤ time
     ·refine ⟨n + 1, by omega, fun i hi h => ?_, fun i hi h1 h2 => by omega⟩
      by_cases e : i = n
      ·subst e; exact hx
      ·exact m1 i hi (by omega)
     ·refine ⟨m, by omega, m1, fun i hi h1 h2 => ?_⟩
      have e : i = n := by omega
      subst e; exact hx
    ·refine ⟨m, by omega, m1, fun i hi h1 h2 => ?_⟩
     by_cases e : i = n
     ·subst e
      have := m2 m (by omega) (by omega) (by omega)
      have := sorted_at h hi (show m < i by omega)
      omega
     ·exact m2 i hi h1 (by omega)
  obtain ⟨m, hm, m1, m2⟩ := ind cs.length (Nat.le_refl _)
  exact ⟨m, hm, m1, fun i hi h => m2 i hi h hi⟩
 obtain ⟨m, hm, m1, m2⟩ := this
 have e : chCount cs time = m := by
  refine countP_prefix _ _ _ hm (fun i hi => ?_) (fun i h1 h2 => ?_)
  ·have := m1 i (by omega) hi; rw [hd i (by omega)]; simpa using this
  ·have := m2 i h2 h1; rw [hd i h2]; simp at this ⊢; omega
 rw [e]; exact ⟨hm, m1, fun i hi h => Int.not_le.1 (m2 i hi h)⟩
end Go.Proofs.YthppifcggmdmoaaGreatDoor
namespace Go.Proofs.YthppifcggmdmoaaGreatDoor
open Go.RowKit
set_option linter.unusedVariables false
attribute [local go_sem ↓] Go.wp_at_zero Go.wp_at_succ

set_option maxHeartbeats 1000000 in
theorem t_Of1 (i n cap b o b1 b2 : Nat) (v time : Int) (W : World) (hi : i < n) (hc : n ≤ cap) (hm : cap ≤ maxLen) (h1 : W.cell? ⟨b1, 2, none⟩ = some (.slice (some ⟨b, o, none⟩) n cap)) (h2 : W.cell? ⟨b2, 0, none⟩ = some (.int .i64 time))
  (h3 : W.cell? ⟨b, o + i * 2, none⟩ = some (.int .i64 v)) :
  Calls Tryz.prog 88 #[.int .i64 (i : Int), .pointer (some ⟨b1, 0, none⟩), .pointer (some ⟨b2, 0, none⟩)] W fun e w' => e = .returned (.bool (decide (time < v))) ∧ ∃ q, w' = W.drewN q := by
 unfold maxLen at hm
 have hi1 : (0 : Int) ≤ (i : Int) := by omega
 have hi2 : (i : Int) < (n : Int) := by omega
 go_enter Tryz.func88, Tryz.ntmps88
 go_wp2_with fail
 go_quiet (fail)
 go_wp2_with fail
 go_ret
 exact ⟨rfl, _, rfl⟩

theorem t_OfSearch (A C : Option Addr) (capT capC : Nat) (ts : List Ty) (first : Int) (cs : List Ch) (time : Int) (W : World) (b1 b2 : Nat) (H : TabAt W A C capT capC ts cs) (hs : cs.Pairwise (fun a b => a.1 < b.1))
  (h1 : W.cell? ⟨b1, 2, none⟩ = some (.slice C cs.length capC)) (h2 : W.cell? ⟨b2, 0, none⟩ = some (.int .i64 time)) (hb1 : b1 < W.heap.size) (hb2 : b2 < W.heap.size) (hn : cs.length ≤ 100000) :
  Calls Tryz.prog 84 #[.int .i64 (cs.length : Int), .func (.func 88) #[] #[.pointer (some ⟨b1, 0, none⟩), .pointer (some ⟨b2, 0, none⟩)]] W
   fun e w' => e = .returned (.int .i64 (chCount cs time : Nat)) ∧ Below W.heap.size W w' := by
 refine (Any.sort_Search Tryz.search 88 #[.pointer (some ⟨b1, 0, none⟩), .pointer (some ⟨b2, 0, none⟩)] cs.length (fun i => decide (time < (cs.getD i (0, 0)).1)) W (enters_of Tryz.func88 (by kernel_rfl) rfl) (by omega) ?_ ?_).mono ?_
 ·intro m os i hi
  have hbl := below_grown_sl W.heap.size W m os (Nat.le_refl _)
  obtain ⟨b, o, hA, hb, c0, _⟩ := ch_at (H.C.below hbl) hi
  have hd : (cs.getD i (0, 0)) = cs[i] := by simp [List.getD, hi]
  rw [hd]
  subst hA
  refine (t_Of1 i cs.length capC b o b1 b2 cs[i].1 time _ hi H.cC H.mC ((hbl.cell (by exact hb1)).trans h1) ((hbl.cell (by exact hb2)).trans h2) c0).mono ?_
  rintro e w' ⟨rfl, q, rfl⟩
  exact ⟨rfl, q, #[], by rw [Go.Sort.grow_empty]⟩
 ·intro a b hab hb h
  have e1 : (cs.getD a (0, 0)) = cs[a] := by simp [List.getD, show a < cs.length by omega]
  have e2 : (cs.getD b (0, 0)) = cs[b] := by simp [List.getD, hb]
  rw [e1] at h; rw [e2]
  by_cases e : a = b
  ·subst e; exact h
  ·have := sorted_at hs hb (show a < b by omega)
   simp at h ⊢; omega
 ·rintro e w' ⟨rfl, q, os, rfl⟩
  exact ⟨rfl, below_grown_sl W.heap.size W q os (Nat.le_refl _)⟩

set_option maxRecDepth 100000 in
set_option maxHeartbeats 4000000 in
theorem t_Of (A C : Option Addr) (capT capC : Nat) (ts : List Ty) (first : Int) (cs : List Ch) (time : Int) (w : World) (H : TabAt w A C capT capC ts cs) (K : TabOk ts first cs) :
  Calls Tryz.prog 51 #[.agg #[.slice A ts.length capT, .int .i64 first, .slice C cs.length capC], .int .i64 time] w
   fun e w' => e = .returned (.agg #[.int .i64 (tabOf ts first cs time).1, .bool (tabOf ts first cs time).2.1, .string (tabOf ts first cs time).2.2]) ∧ Below w.heap.size w w' := by
 obtain ⟨q1, q2, q3, q4, q5, hb0⟩ := boxes3 w #[.slice A ts.length capT, .int .i64 first, .slice C cs.length capC] #[.int .i64 time] #[.int .i64 0, .bool false, .string ⟨#[]⟩] 37 3 56
 have m1 := H.mT
 have m2 := H.mC
 have m3 := H.cT
 have m4 := H.cC
 have k1 := K.tmax
 have k2 := K.cmax
 have k3 := K.first0
 have k4 := K.first1
 unfold maxLen at m1 m2
 have HIX := Lib.hid (tyIx_range time K)
 have HCN := Lib.hid (chCount_spec K.sorted time)
 have hS := t_OfSearch A C capT capC ts first cs time _ w.heap.size (w.heap.size + 1) (H.below hb0) K.sorted (q1 2) (q2 0) (by rw [q5]; omega) (by rw [q5]; omega) (by omega)
 have HS := Lib.hid hS
 clear hS
 have Q1 := Lib.hid q1
 have Q2 := Lib.hid q2
 have Q3 := Lib.hid q3
 have Q4 := Lib.hid q4
 have Q5 := Lib.hid q5
 clear q1 q2 q3 q4 q5
 go_enter Tryz.func51, Tryz.ntmps51
 go_wp2_with fail
 have q1 := Q1.out
 have q3 := Q3.out
 have q4 := Q4.out
 have q5 := Q5.out
 refine HS.out.mono ?_
 rintro e w1 ⟨rfl, hb⟩
 have hB := hb0.trans (hb.mono hb0.size)
 have hsz : w.heap.size + 1 + 1 < w1.heap.size := by have := hb.size; omega
 have hcs : ∀ i, w1.cell? ⟨w.heap.size, i, none⟩ = (#[.slice A ts.length capT, .int .i64 first, .slice C cs.length capC] : Array Value)[i]? := fun i => (hb.cell (by rw [q5]; show w.heap.size < _; omega)).trans (q1 i)
 have hr : ∀ i, w1.cell? ⟨w.heap.size + 1 + 1, i, none⟩ = (#[.int .i64 0, .bool false, .string ⟨#[]⟩] : Array Value)[i]? := fun i => (hb.cell (by rw [q5]; exact Nat.lt_succ_self _)).trans (q3 i)
 have hfr : ∀ i, w1.frozen? ⟨w.heap.size + 1 + 1, i, none⟩ = false := fun i => (hb.frozen (by rw [q5]; exact Nat.lt_succ_self _)).trans (q4 i)
 have H1 := H.below hB
 clear hb hb0 HS q1 q3 q4 q5 Q1 Q2 Q3 Q4 Q5
 by_cases h0 : chCount cs time = 0
 ·have hi0 : tyIx first cs time = first := tyIx_none (fun c hc => by
   obtain ⟨i, hi, rfl⟩ := List.mem_iff_getElem.1 hc
   exact Int.not_le.2 (HCN.out.2.2 i hi (by rw [h0]; exact Nat.zero_le _)))
  have hfn : first.toNat < ts.length := by omega
  obtain ⟨b, o, rfl, hb, c0, c1, c2⟩ := ty_at H1.T hfn
  have HE := Lib.hid (show tabOf ts first cs time = ts[first.toNat] by rw [tabOf, hi0]; simp [List.getD, hfn])
  rw [h0]
  clear hi0 h0 HIX HCN
  go_wp2_with fail
  refine bodyPost_ret (v := .agg #[.int .i64 ts[first.toNat].1, .bool ts[first.toNat].2.1, .string ts[first.toNat].2.2]) (by simp [results, Tryz.results51, go_sem, hr]) rfl ⟨by rw [HE.out], (by repeat (first | exact Below.refl _ _ | assumption | apply Below.drew | apply below_drewN | (refine Below.alloc ?_ (by simp; try omega) _) | (refine Below.setCell ?_ (by simp; try omega) _)))⟩
 ·obtain ⟨n1, n2, n3⟩ := HCN.out
  have hkn : chCount cs time - 1 < cs.length := by omega
  have hi0 : tyIx first cs time = cs[chCount cs time - 1].2 := tyIx_at (chCount cs time - 1) hkn (n2 _ hkn (by omega)) (fun j hj hlt => Int.not_le.2 (n3 j hj (by omega)))
  have hr2 := HIX.out
  rw [hi0] at hr2
  obtain ⟨b, o, rfl, hb, c0, c1⟩ := ch_at (H.C.below hB) hkn
  have htn : cs[chCount cs time - 1].2.toNat < ts.length := by omega
  obtain ⟨bt, ot, rfl, hbt, d0, d1, d2⟩ := ty_at (H.T.below hB) htn
  have HE := Lib.hid (show tabOf ts first cs time = ts[cs[chCount cs time - 1].2.toNat] by rw [tabOf, hi0]; simp [List.getD, htn])
  obtain ⟨tt, htt⟩ : ∃ tt : Ty, ts[cs[chCount cs time - 1].2.toNat] = tt := ⟨_, rfl⟩
  rw [htt] at d0 d1 d2 HE
  clear htt
  obtain ⟨k, hk⟩ : ∃ k : Nat, chCount cs time = k + 1 := ⟨chCount cs time - 1, by omega⟩
  obtain ⟨ty, hty⟩ : ∃ ty : Int, cs[chCount cs time - 1].2 = ty := ⟨_, rfl⟩
  simp only [hty] at hr2 d0 d1 d2 c1
  simp only [hk, Nat.add_sub_cancel] at c0 c1
  rw [hk]
  have hk1 : ((k : Int) + 1 == 0) = false := by rw [beq_eq_false_iff_ne]; omega
  obtain ⟨r1, r2⟩ := hr2
  have hkl : k < cs.length := by omega
  have hk2 : (0 : Int) ≤ (k : Int) := by omega
  have hk3 : (k : Int) < (cs.length : Int) := by omega
  obtain ⟨ck, hck⟩ : ∃ ck : Int, cs[k].1 = ck := ⟨_, rfl⟩
  rw [hck] at c0
  clear hi0 h0 HIX HCN n1 n2 n3 hty hk hkn htn hck
  go_wp2_with fail
  have hw1 : IntKind.i64.wrap ((k : Int) + 1 - 1) = (k : Int) := by rw [show (k : Int) + 1 - 1 = k by omega]; exact IntWalk.i64_in _ (by omega)
  have hw2 : IntKind.i64.wrap (k : Int) = (k : Int) := IntWalk.i64_in _ (by omega)
  have hw3 : (k : Int).toNat = k := by omega
  go_region_held3 (fun w' => (∀ i, w'.cell? ⟨w.heap.size, i, none⟩ = (#[.slice (some ⟨bt, ot, none⟩) ts.length capT, .int .i64 first, .slice (some ⟨b, o, none⟩) cs.length capC] : Array Value)[i]?) ∧ w'.cell? ⟨b, o + k * 2 + 1, none⟩ = some (.int .i64 ty) ∧ w'.cell? ⟨bt, ot + ty.toNat * 3, none⟩ = some (.int .i64 tt.1) ∧ w'.cell? ⟨bt, ot + ty.toNat * 3 + 1, none⟩ = some (.bool tt.2.1) ∧ w'.cell? ⟨bt, ot + ty.toNat * 3 + 2, none⟩ = some (.string tt.2.2))
   (first | exact ⟨hcs, c1, d0, d1, d2⟩ | exact ⟨fun i => (far3 (by show w.heap.size + 1 + 1 ≠ w.heap.size; omega)).trans (hcs i), (far3 (by show w.heap.size + 1 + 1 ≠ b; omega)).trans c1, (far3 (by show w.heap.size + 1 + 1 ≠ bt; omega)).trans d0, (far3 (by show w.heap.size + 1 + 1 ≠ bt; omega)).trans d1, (far3 (by show w.heap.size + 1 + 1 ≠ bt; omega)).trans d2⟩)
   (fail)
  go_wp2_with fail
  refine bodyPost_ret (v := .agg #[.int .i64 tt.1, .bool tt.2.1, .string tt.2.2]) (by simp [results, Tryz.results51, go_sem, hr]) rfl ⟨by rw [HE.out], (by repeat (first | exact Below.refl _ _ | assumption | apply Below.drew | apply below_drewN | (refine Below.alloc ?_ (by simp; try omega) _) | (refine Below.setCell ?_ (by simp; try omega) _)))⟩
end Go.Proofs.YthppifcggmdmoaaGreatDoor
namespace Go.Proofs.YthppifcggmdmoaaGreatDoor
open Go.RowKit
set_option linter.unusedVariables false
attribute [local go_sem ↓] Go.wp_at_zero Go.wp_at_succ
end Go.Proofs.YthppifcggmdmoaaGreatDoor
namespace Go.Proofs.YthppifcggmdmoaaGreatDoor
open Go.RowKit
set_option linter.unusedVariables false
set_option maxHeartbeats 400000 in
theorem t_within (n a b : Int) (w : World) :
  Calls Tryz.prog 36 #[.int .i64 n, .int .i64 a, .int .i64 b] w fun e w' => e = .returned (.bool (decide (a ≤ n ∧ n ≤ b))) ∧ w = w' := by
 by_cases h1 : a ≤ n
 all_goals
  go_enter Tryz.func36, Tryz.ntmps36
  go_wp2
  go_ret
  exact ⟨ret_bool (by simp; omega), rfl⟩

set_option maxRecDepth 100000 in
set_option maxHeartbeats 4000000 in
theorem t_Check_short (A C : Option Addr) (capT capC : Nat) (ts : List Ty) (first : Int) (cs : List Ch) (w : World) (H : TabAt w A C capT capC ts cs) (h : (ts.length > 250 ∨ cs.length > 1000) ∨ ts.length = 0) :
  Calls Tryz.prog 11 #[.agg #[.slice A ts.length capT, .int .i64 first, .slice C cs.length capC]] w fun e w' => e = .returned (.int .i64 (tabE ts first cs)) ∧ Below w.heap.size w w' := by
 obtain ⟨m1, m2⟩ : capT ≤ maxLen ∧ capC ≤ maxLen := ⟨H.mT, H.mC⟩
 have m3 := H.cT
 have m4 := H.cC
 unfold maxLen at m1 m2
 by_cases h1 : 250 < ts.length
 ·have HE := Lib.hid (tabE_large (first := first) (Or.inl h1) : tabE ts first cs = 2)
  clear h
  go_enter Tryz.func11, Tryz.ntmps11
  go_wp2_with fail
  go_ret
  exact ⟨ret_int HE.out.symm, (by repeat (first | exact Below.refl _ _ | assumption | apply Below.drew | apply below_drewN | (refine Below.alloc ?_ (by simp; try omega) _) | (refine Below.setCell ?_ (by simp; try omega) _)))⟩
 ·by_cases h2 : 1000 < cs.length
  ·have HE := Lib.hid (tabE_large (first := first) (Or.inr h2) : tabE ts first cs = 2)
   clear h
   go_enter Tryz.func11, Tryz.ntmps11
   go_wp2_with fail
   go_ret
   exact ⟨ret_int HE.out.symm, (by repeat (first | exact Below.refl _ _ | assumption | apply Below.drew | apply below_drewN | (refine Below.alloc ?_ (by simp; try omega) _) | (refine Below.setCell ?_ (by simp; try omega) _)))⟩
  ·have h3 : ts.length = 0 := by omega
   have HE := Lib.hid (tabE_form (first := first) (by omega) h3 : tabE ts first cs = 5)
   have h4 : ((ts.length : Int) == 0) = true := by simp [h3]
   clear h h3
   go_enter Tryz.func11, Tryz.ntmps11
   go_wp2_with fail
   go_ret
   exact ⟨ret_int HE.out.symm, (by repeat (first | exact Below.refl _ _ | assumption | apply Below.drew | apply below_drewN | (refine Below.alloc ?_ (by simp; try omega) _) | (refine Below.setCell ?_ (by simp; try omega) _)))⟩

set_option maxRecDepth 100000 in
set_option maxHeartbeats 8000000 in
theorem t_Check_long (A C : Option Addr) (capT capC : Nat) (ts : List Ty) (first : Int) (cs : List Ch) (w : World) (H : TabAt w A C capT capC ts cs) (h1 : ts.length ≤ 250) (h2 : cs.length ≤ 1000) (h3 : 0 < ts.length) :
  Calls Tryz.prog 11 #[.agg #[.slice A ts.length capT, .int .i64 first, .slice C cs.length capC]] w fun e w' => e = .returned (.int .i64 (tabE ts first cs)) ∧ Below w.heap.size w w' := by
 obtain ⟨m1, m2⟩ : capT ≤ maxLen ∧ capC ≤ maxLen := ⟨H.mT, H.mC⟩
 have m3 := H.cT
 have m4 := H.cC
 unfold maxLen at m1 m2
 have h4 : ((ts.length : Int) == 0) = false := by rw [beq_eq_false_iff_ne]; omega
 go_enter Tryz.func11, Tryz.ntmps11
 go_wp2_with fail
 clear h4
 go_loopw [27] (fun i wr => ∃ k : Nat, k ≤ ts.length ∧ i = .int .i64 k ∧ Hid (typesE ts = typesE (ts.drop k)) ∧ TK w wr #[.slice A ts.length capT, .int .i64 first, .slice C cs.length capC]) (fun i _ => ts.length - (intOf i).toNat)
 case atStart => exact ⟨0, Nat.zero_le _, rfl, Lib.hid rfl, TK.box _ _ _⟩
 case round =>
  obtain ⟨k, hk, rfl, HT, HK⟩ := hrel
  by_cases hlt : k < ts.length
  ·have HN := H.names ts[k] (List.getElem_mem hlt)
   have HD := Lib.hid (typesE_drop ts k hlt)
   obtain ⟨b, o, rfl, hb, c0, c1, c2⟩ := ty_at (H.T.below HK.2.2) hlt
   have hcs := HK.1
   have hb' := Nat.lt_trans hb HK.2.1
   by_cases h5 : -75600 ≤ ts[k].1 ∧ ts[k].1 ≤ 75600
   ·have hd : decide (-75600 ≤ ts[k].1 ∧ ts[k].1 ≤ 75600) = true := by simpa using h5
    cases h6 : isAbbrB ts[k].2.2.data.toList with
    | true =>
     have HE := Lib.hid (show typesE ts = typesE (ts.drop (k + 1)) by rw [HT.out, HD.out, if_neg (by simpa using h5), h6]; rfl)
     clear h5
     go_wp2_with (first | (go_at_call 36; refine (t_within _ _ _ _).mono ?_; rintro e w' ⟨rfl, rfl⟩) | (go_at_call 37; refine (u_IsAbbr _ HN _).mono ?_; rintro e w' ⟨rfl, rfl⟩))
     exact ⟨⟨k + 1, by omega, by go_num, HE, HK.alloc _⟩, by simp [intOf]; omega⟩
    | false =>
     have HE := Lib.hid (show tabE ts first cs = 3 by
      have e : typesE ts = 3 := by rw [HT.out, HD.out, if_neg (by simpa using h5), h6]; rfl
      rw [tabE_types (by omega) (by omega) (by rw [e]; decide), e])
     clear h5
     go_wp2_with (first | (go_at_call 36; refine (t_within _ _ _ _).mono ?_; rintro e w' ⟨rfl, rfl⟩) | (go_at_call 37; refine (u_IsAbbr _ HN _).mono ?_; rintro e w' ⟨rfl, rfl⟩))
     go_ret
     exact ⟨ret_int HE.out.symm, (HK.alloc _).2.2⟩
   ·have hd : decide (-75600 ≤ ts[k].1 ∧ ts[k].1 ≤ 75600) = false := by simpa using h5
    have HE := Lib.hid (show tabE ts first cs = 1 by
     have e : typesE ts = 1 := by rw [HT.out, HD.out, if_pos h5]
     rw [tabE_types (by omega) (by omega) (by rw [e]; decide), e])
    clear h5
    go_wp2_with (first | (go_at_call 36; refine (t_within _ _ _ _).mono ?_; rintro e w' ⟨rfl, rfl⟩) | (go_at_call 37; refine (u_IsAbbr _ HN _).mono ?_; rintro e w' ⟨rfl, rfl⟩))
    go_ret
    exact ⟨ret_int HE.out.symm, (HK.alloc _).2.2⟩
  ·obtain rfl : k = ts.length := by omega
   have HT0 := Lib.hid (show typesE ts = 0 by rw [HT.out, List.drop_length]; rfl)
   clear HT
   have hcs := HK.1
   have hz := HK.2.1
   by_cases h5 : 0 ≤ first ∧ first ≤ ts.length - 1
   ·have hd : decide (0 ≤ first ∧ first ≤ (ts.length : Int) - 1) = true := by simpa using h5
    have HE := Lib.hid (show tabE ts first cs = changesE (ts.length - 1) none cs from tabE_changes (by omega) (by omega) HT0.out h5)
    clear h5
    go_wp2_with (first | (go_at_call 36; refine (t_within _ _ _ _).mono ?_; rintro e w' ⟨rfl, rfl⟩))
    clear hd hcs
    go_loopw [52] (fun i wr => ∃ k : Nat, k ≤ cs.length ∧ i = .int .i64 k ∧ Hid (tabE ts first cs = changesE (ts.length - 1) (prevAt cs k) (cs.drop k)) ∧ TK w wr #[.slice A ts.length capT, .int .i64 first, .slice C cs.length capC]) (fun i _ => cs.length - (intOf i).toNat)
    case atStart => exact ⟨0, Nat.zero_le _, rfl, Lib.hid HE.out, HK⟩
    case round =>
     clear HE HK hz
     obtain ⟨k, hk, rfl, HT, HK⟩ := hrel
     have hcs := HK.1
     have hz := HK.2.1
     by_cases hlt : k < cs.length
     ·obtain ⟨b, o, rfl, hb, c0, c1⟩ := ch_at (H.C.below HK.2.2) hlt
      have hb' := Nat.lt_trans hb HK.2.1
      by_cases h5 : -1099511627776 ≤ cs[k].1 ∧ cs[k].1 ≤ 1099511627776 ∧ 0 ≤ cs[k].2 ∧ cs[k].2 ≤ ts.length - 1
      ·have hd1 : decide (-1099511627776 ≤ cs[k].1 ∧ cs[k].1 ≤ 1099511627776) = true := by simp; omega
       have hd2 : decide (0 ≤ cs[k].2 ∧ cs[k].2 ≤ (ts.length : Int) - 1) = true := by simp; omega
       by_cases hk0 : k = 0
       ·have HE := Lib.hid (show tabE ts first cs = changesE (ts.length - 1) (prevAt cs (k + 1)) (cs.drop (k + 1)) by rw [HT.out]; exact ch_next hlt h5 (fun h0 => by omega))
        subst hk0
        clear h5
        simp only [Nat.zero_mul, Nat.add_zero] at c0 c1
        go_wp2_with (first | (go_at_call 36; refine (t_within _ _ _ _).mono ?_; rintro e w' ⟨rfl, rfl⟩))
        go_quiet (fail)
        go_wp2_with fail
        exact ⟨⟨1, by omega, by go_num, HE, (HK.alloc _).drewN _⟩, by simp [intOf]; omega⟩
       ·obtain ⟨b2, o2, e2, _, p0, _⟩ := ch_at (H.C.below HK.2.2) (show k - 1 < cs.length by omega)
        simp only [Option.some.injEq, Addr.mk.injEq, and_true] at e2
        obtain ⟨rfl, rfl⟩ := e2
        have hi1 : (0 : Int) ≤ (k : Int) - 1 := by omega
        have hi2 : (k : Int) - 1 < (cs.length : Int) := by omega
        have hi3 : 0 < k := by omega
        by_cases h6 : cs[k].1 ≤ cs[k - 1].1
        ·have HE := Lib.hid (show tabE ts first cs = 5 by rw [HT.out]; exact ch_form hlt (by omega) h5 h6)
         clear h5
         go_wp2_with (first | (go_at_call 36; refine (t_within _ _ _ _).mono ?_; rintro e w' ⟨rfl, rfl⟩))
         go_quiet (fail)
         go_wp2_with fail
         go_ret
         exact ⟨ret_int HE.out.symm, ((HK.alloc _).drewN _).2.2⟩
        ·have HE := Lib.hid (show tabE ts first cs = changesE (ts.length - 1) (prevAt cs (k + 1)) (cs.drop (k + 1)) by rw [HT.out]; exact ch_next hlt h5 (fun h0 => h6))
         clear h5
         go_wp2_with (first | (go_at_call 36; refine (t_within _ _ _ _).mono ?_; rintro e w' ⟨rfl, rfl⟩))
         go_quiet (fail)
         go_wp2_with fail
         exact ⟨⟨k + 1, by omega, by go_num, HE, (HK.alloc _).drewN _⟩, by simp [intOf]; omega⟩
      ·have HE := Lib.hid (show tabE ts first cs = 1 by rw [HT.out]; exact ch_bad hlt h5)
       by_cases h6 : -1099511627776 ≤ cs[k].1 ∧ cs[k].1 ≤ 1099511627776
       ·have hd1 : decide (-1099511627776 ≤ cs[k].1 ∧ cs[k].1 ≤ 1099511627776) = true := by simp; omega
        have hd2 : decide (0 ≤ cs[k].2 ∧ cs[k].2 ≤ (ts.length : Int) - 1) = false := by simp; omega
        clear h5 h6
        go_wp2_with (first | (go_at_call 36; refine (t_within _ _ _ _).mono ?_; rintro e w' ⟨rfl, rfl⟩))
        go_ret
        exact ⟨ret_int HE.out.symm, (HK.alloc _).2.2⟩
       ·have hd1 : decide (-1099511627776 ≤ cs[k].1 ∧ cs[k].1 ≤ 1099511627776) = false := by simp; omega
        clear h5 h6
        go_wp2_with (first | (go_at_call 36; refine (t_within _ _ _ _).mono ?_; rintro e w' ⟨rfl, rfl⟩))
        go_ret
        exact ⟨ret_int HE.out.symm, (HK.alloc _).2.2⟩
     ·obtain rfl : k = cs.length := by omega
      have HE := Lib.hid (show tabE ts first cs = 0 by rw [HT.out, List.drop_length]; rfl)
      go_wp2_with fail
      go_ret
      exact ⟨ret_int HE.out.symm, HK.2.2⟩
   ·have hd : decide (0 ≤ first ∧ first ≤ (ts.length : Int) - 1) = false := by simpa using h5
    have HE := Lib.hid (show tabE ts first cs = 1 from tabE_first (by omega) (by omega) HT0.out h5)
    clear h5
    go_wp2_with (first | (go_at_call 36; refine (t_within _ _ _ _).mono ?_; rintro e w' ⟨rfl, rfl⟩))
    go_ret
    exact ⟨ret_int HE.out.symm, HK.2.2⟩
theorem t_Check (A C : Option Addr) (capT capC : Nat) (ts : List Ty) (first : Int) (cs : List Ch) (w : World) (H : TabAt w A C capT capC ts cs) :
  Calls Tryz.prog 11 #[.agg #[.slice A ts.length capT, .int .i64 first, .slice C cs.length capC]] w fun e w' => e = .returned (.int .i64 (tabE ts first cs)) ∧ Below w.heap.size w w' := by
 by_cases h : (ts.length > 250 ∨ cs.length > 1000) ∨ ts.length = 0
 ·exact t_Check_short A C capT capC ts first cs w H h
 ·exact t_Check_long A C capT capC ts first cs w H (by omega) (by omega) (by omega)
end Go.Proofs.YthppifcggmdmoaaGreatDoor
namespace Go.Proofs.YthppifcggmdmoaaGreatDoor
open Go.RowKit
set_option linter.unusedVariables false
def inCells (n : Int) : List Value := [.int .i64 n]
theorem in_at {w : World} {B : Nat} {A : Option Addr} {xs : List Int} (h : SlAt w B 1 A (xs.map inCells)) {k : Nat} (hk : k < xs.length) :
  ∃ b o, A = some ⟨b, o, none⟩ ∧ b < B ∧ w.cell? ⟨b, o + k, none⟩ = some (.int .i64 xs[k]) := by
 obtain ⟨b, o, h1, h2, h3⟩ := h (by simp; omega)
 have e : (xs.map inCells).getD k [] = inCells xs[k] := by simp [List.getD, hk]
 have h4 := h3 k (by simpa using hk) 0 (by omega)
 rw [e, Nat.mul_one] at h4
 exact ⟨b, o, h1, h2, h4⟩
end Go.Proofs.YthppifcggmdmoaaGreatDoor

