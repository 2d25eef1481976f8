/- Part 43 of the proof of TopLater: no condition; what its declarations say stands at each. -/
import Derived.Test.YthppifcggmdmoaaGreatDoorK41
import Derived.Test.YthppifcggmdmoaaGreatDoorK18
namespace Go.Proofs.YthppifcggmdmoaaGreatDoor
set_option linter.unusedVariables false
theorem tyIx_same {first : Int} {cs : List Ch} {s t : Int} (h : ∀ c ∈ cs, (c.1 ≤ s ↔ c.1 ≤ t)) : tyIx first cs s = tyIx first cs t := by
 have H : ∀ (l : List Ch) (k : Int), (∀ c ∈ l, (c.1 ≤ s ↔ c.1 ≤ t)) → l.foldl (fun k c => if c.1 ≤ s then c.2 else k) k = l.foldl (fun k c => if c.1 ≤ t then c.2 else k) k := by
  intro l
  induction l with
  | nil => intro k _; rfl
  | cons c r ih =>
   intro k hc
   simp only [List.foldl_cons]
   have h1 := hc c (by simp)
   by_cases h2 : c.1 ≤ s
   ·rw [if_pos h2, if_pos (h1.1 h2)]; exact ih _ fun d hd => hc d (by simp [hd])
   ·rw [if_neg h2, if_neg (fun h3 => h2 (h1.2 h3))]; exact ih _ fun d hd => hc d (by simp [hd])
 exact H cs first h
theorem offT_same {ts : List Ty} {first : Int} {cs : List Ch} {s t : Int} (h : ∀ c ∈ cs, (c.1 ≤ s ↔ c.1 ≤ t)) : offT ts first cs s = offT ts first cs t := by
 unfold offT tabOf
 rw [tyIx_same h]
def setIn (cs : List Ch) (after a b : Int) : Bool := cs.any fun c => decide ((a < c.1 ∧ c.1 ≤ b) ∨ (after < c.1 ∧ c.1 ≤ a))
theorem later_law {ts : List Ty} {first : Int} {cs : List Ch} {after second a b : Int} (h1 : 0 ≤ second) (h2 : second < 86400) (a1 : after ≤ 1099511627776) (ha : NxLeast ts first cs after second a) (hb : NxLeast ts first cs a second b) (hs : setIn cs after a b = false) :
  b = a + 86400 ∧ a ≤ after + 86400 := by
 have hn : ∀ c ∈ cs, ¬ ((a < c.1 ∧ c.1 ≤ b) ∨ (after < c.1 ∧ c.1 ≤ a)) := fun c hc => by
  have h := List.any_eq_false.1 hs c hc
  simpa using h
 have g1 := ha.gt
 have g2 := hb.gt
 have q1 := ha.hi
 have q2 := hb.hi
 have ho0 : ∀ t, after ≤ t → t ≤ b → offT ts first cs t = offT ts first cs after := fun t t1 t2 => offT_same fun c hc => by
  have := hn c hc
  omega
 obtain ⟨o, hoo⟩ : ∃ o, offT ts first cs after = o := ⟨_, rfl⟩
 rw [hoo] at ho0
 have ho : ∀ t, after ≤ t → t ≤ b → offT ts first cs t = o := ho0
 have e1 := ha.at_
 have e2 := hb.at_
 rw [ho a (by omega) (by omega)] at e1
 rw [ho b (by omega) (by omega)] at e2
 have l1 : a ≤ after + 86400 := by
  rcases Int.lt_or_le (after + 86400) a with h | h
  ·exfalso
   obtain ⟨t, ht⟩ : ∃ t, after + 1 + (second - (after + 1) - o) % 86400 = t := ⟨_, rfl⟩
   have h4 := ho t (by omega) (by omega)
   have h3 := ha.least t (by omega) (by unfold highT; omega) (by rw [h4]; omega)
   omega
  ·exact h
 refine ⟨?_, l1⟩
 rcases Int.lt_or_le (a + 86400) b with h | h
 ·exfalso
  have h4 := ho (a + 86400) (by omega) (by omega)
  have h3 := hb.least (a + 86400) (by omega) (by unfold highT; omega) (by rw [h4]; omega)
  omega
 ·omega
theorem filter_lt {p q : Ch → Bool} : ∀ {l : List Ch}, (∀ c ∈ l, p c = true → q c = true) → (∃ c ∈ l, q c = true ∧ p c = false) → (l.filter p).length < (l.filter q).length
 | [], _, ⟨c, h, _⟩ => by cases h
 | x :: l, hpq, ⟨c, hc, h1, h2⟩ => by
  have hle : (l.filter p).length ≤ (l.filter q).length := by
   clear h1 h2 hc
   have h : ∀ c ∈ l, p c = true → q c = true := fun c hc => hpq c (by simp [hc])
   clear hpq
   induction l with
   | nil => exact Nat.le_refl _
   | cons y r ih =>
    have := ih fun c hc => h c (by simp [hc])
    have hy := h y (by simp)
    simp only [List.filter_cons]
    cases e : p y with
    | true => rw [hy e]; simp; exact this
    | false => cases q y <;> simp <;> omega
  rcases List.mem_cons.1 hc with e | hc
  ·subst e
   simp only [List.filter_cons, h1, h2]
   simp; omega
  ·have ih := filter_lt (fun c hc => hpq c (by simp [hc])) ⟨c, hc, h1, h2⟩
   have hx := hpq x (by simp)
   simp only [List.filter_cons]
   cases e : p x with
   | true => rw [hx e]; simp; exact ih
   | false => cases q x <;> simp <;> omega
theorem filter_le' {p : Ch → Bool} (l : List Ch) : (l.filter p).length ≤ l.length := List.length_filter_le _ _
theorem nx_near {ts : List Ty} {first : Int} {cs : List Ch} {after second a : Int} (h1 : 0 ≤ second) (h2 : second < 86400) (ha : NxLeast ts first cs after second a) : a ≤ after + ((cs.length : Int) + 1) * 86400 := by
 rcases Int.lt_or_le (after + ((cs.length : Int) + 1) * 86400) a with h | h
 ·exfalso
  have q1 := ha.hi
  have step : ∀ i : Nat, i ≤ cs.length + 1 → i ≤ (cs.filter fun c => decide (c.1 ≤ after + (i : Int) * 86400)).length := by
   intro i
   induction i with
   | zero => intro _; exact Nat.zero_le _
   | succ i ih =>
    intro hi
    have hi2 := ih (by omega)
    have ex : ∃ c ∈ cs, after + (i : Int) * 86400 < c.1 ∧ c.1 ≤ after + ((i + 1 : Nat) : Int) * 86400 := by
     apply Classical.byContradiction
     intro hne
     have hno : ∀ c ∈ cs, ¬ (after + (i : Int) * 86400 < c.1 ∧ c.1 ≤ after + ((i + 1 : Nat) : Int) * 86400) := fun c hc hh => hne ⟨c, hc, hh⟩
     have hb : ((i : Int) + 1) * 86400 ≤ ((cs.length : Int) + 1) * 86400 := by omega
     have hl : after + (i : Int) * 86400 + 86400 < a := by omega
     obtain ⟨s, hs⟩ : ∃ s, after + (i : Int) * 86400 = s := ⟨_, rfl⟩
     have hs2 : after + ((i + 1 : Nat) : Int) * 86400 = s + 86400 := by omega
     have hge : after ≤ s := by omega
     rw [hs, hs2] at hno
     rw [hs] at hl
     have ho : ∀ t, s ≤ t → t ≤ s + 86400 → offT ts first cs t = offT ts first cs s := fun t t1 t2 => offT_same fun c hc => by
      have := hno c hc
      omega
     obtain ⟨o, hoo⟩ : ∃ o, offT ts first cs s = o := ⟨_, rfl⟩
     rw [hoo] at ho
     obtain ⟨t, ht⟩ : ∃ t, s + 1 + (second - (s + 1) - o) % 86400 = t := ⟨_, rfl⟩
     have h4 := ho t (by omega) (by omega)
     have h3 := ha.least t (by omega) (by unfold highT; omega) (by rw [h4]; omega)
     omega
    obtain ⟨c, hc, c1, c2⟩ := ex
    have hlt := filter_lt (l := cs) (p := fun c => decide (c.1 ≤ after + (i : Int) * 86400)) (q := fun c => decide (c.1 ≤ after + ((i + 1 : Nat) : Int) * 86400)) (fun d hd h => by
     have := of_decide_eq_true h
     exact decide_eq_true (by omega)) ⟨c, hc, decide_eq_true c2, decide_eq_false (by omega)⟩
    omega
  have h3 := step (cs.length + 1) (Nat.le_refl _)
  have h4 := filter_le' (p := fun c => decide (c.1 ≤ after + ((cs.length + 1 : Nat) : Int) * 86400)) cs
  omega
 ·exact h
end Go.Proofs.YthppifcggmdmoaaGreatDoor

namespace Go.Proofs.YthppifcggmdmoaaGreatDoor
open Go.RowKit
set_option linter.unusedVariables false
set_option maxHeartbeats 1000000 in
theorem rest_M (n m : Int) (h1 : -9223372036854775808 ≤ n) (h2 : n ≤ 9223372036854775807) (hm : 0 < m) (hm2 : m ≤ 4611686018427387904) (w : World) :
  Calls Tryz.prog 12 #[.int .i64 n, .int .i64 m] w fun e w' => e = .returned (.int .i64 (n % m)) ∧ w = w' := by
 obtain ⟨q, t1, t2, t3, t4, t5⟩ := tmod_fact' n m hm
 obtain ⟨t, ht⟩ : ∃ t, n.tmod m = t := ⟨_, rfl⟩
 rw [ht] at t1 t2 t3 t4 t5
 have hm0 : ¬ m = 0 := by omega
 have hm1 : ¬ m = -1 := by omega
 have hwt : IntKind.i64.wrap t = t := IntWalk.i64_in _ (by omega)
 by_cases hc : t < 0
 ·have HV : Hid (n % m = t + m) := Lib.hid (by
   have e : n = (t + m) + m * (q - 1) := by rw [t1, Int.mul_sub]; omega
   rw [e, Int.add_mul_emod_self_left, Int.emod_eq_of_lt (by omega) (by omega)])
  rw [HV.out]
  have hn : n < 0 := by by_cases hx : n < 0; exact hx; have := t4 (by omega); omega
  have hwt2 : IntKind.i64.wrap (t + m) = t + m := IntWalk.i64_in _ (by omega)
  clear HV t1 t4 t5
  go_enter Tryz.func12, Tryz.ntmps12
  go_wp2
  go_ret
  exact ⟨rfl, rfl⟩
 ·have HV : Hid (n % m = t) := Lib.hid (by
   have e : n = t + m * q := by rw [t1]; omega
   rw [e, Int.add_mul_emod_self_left, Int.emod_eq_of_lt (by omega) (by omega)])
  rw [HV.out]
  clear HV t1 t4 t5
  go_enter Tryz.func12, Tryz.ntmps12
  go_wp2
  go_ret
  exact ⟨rfl, rfl⟩
end Go.Proofs.YthppifcggmdmoaaGreatDoor

