/- Part 34 of the proof of TopLater: no condition; what its declarations say stands at each. -/
import Derived.Test.YthppifcggmdmoaaGreatDoorK04
import Derived.Test.YthppifcggmdmoaaGreatDoorK02
import Derived.Test.YthppifcggmdmoaaGreatDoorK01
import Derived.Deep.RegionHeld3
import Derived.Deep.DrawnRows
import Derived.Test.YthppifcggmdmoaaGreatDoorK14
namespace Go.Proofs.YthppifcggmdmoaaGreatDoor
set_option linter.unusedVariables false
structure TabOk (ts : List Ty) (first : Int) (cs : List Ch) : Prop where
 tpos : 0 < ts.length
 tmax : ts.length ≤ 250
 cmax : cs.length ≤ 1000
 types : ∀ t ∈ ts, -75600 ≤ t.1 ∧ t.1 ≤ 75600 ∧ isAbbrB t.2.2.data.toList = true
 first0 : 0 ≤ first
 first1 : first < ts.length
 range : ∀ c ∈ cs, -1099511627776 ≤ c.1 ∧ c.1 ≤ 1099511627776 ∧ 0 ≤ c.2 ∧ c.2 < ts.length
 sorted : cs.Pairwise (fun a b => a.1 < b.1)
theorem typesE_ok : ∀ {ts : List Ty}, typesE ts = 0 → ∀ t ∈ ts, -75600 ≤ t.1 ∧ t.1 ≤ 75600 ∧ isAbbrB t.2.2.data.toList = true
 | [], _, t, ht => by simp at ht
 | x :: r, h, t, ht => by
  unfold typesE at h
  by_cases h1 : -75600 ≤ x.1 ∧ x.1 ≤ 75600
  ·rw [if_neg (by simpa using h1)] at h
   cases h2 : isAbbrB x.2.2.data.toList with
   | false => rw [h2] at h; simp at h
   | true =>
    rw [h2] at h
    rcases List.mem_cons.1 ht with rfl | ht
    ·exact ⟨h1.1, h1.2, h2⟩
    ·exact typesE_ok (by simpa using h) t ht
  ·rw [if_pos h1] at h; omega
theorem changesE_ok {last : Int} : ∀ {cs : List Ch} {p : Option Int}, changesE last p cs = 0 → (∀ c ∈ cs, -1099511627776 ≤ c.1 ∧ c.1 ≤ 1099511627776 ∧ 0 ≤ c.2 ∧ c.2 ≤ last) ∧ cs.Pairwise (fun a b => a.1 < b.1) ∧ (∀ q, p = some q → ∀ c ∈ cs, q < c.1)
 | [], p, _ => ⟨by simp, List.Pairwise.nil, by simp⟩
 | x :: r, p, h => by
  unfold changesE at h
  by_cases h1 : -1099511627776 ≤ x.1 ∧ x.1 ≤ 1099511627776 ∧ 0 ≤ x.2 ∧ x.2 ≤ last
  ·have key : changesE last (some x.1) r = 0 ∧ (∀ q, p = some q → q < x.1) := by
    cases p with
    | none => rw [if_neg (by simpa using h1), if_neg (by simp)] at h; exact ⟨h, by simp⟩
    | some q =>
     rw [if_neg (by simpa using h1)] at h
     by_cases h2 : x.1 ≤ q
     ·rw [if_pos (by simpa using h2)] at h; omega
     ·rw [if_neg (by simpa using h2)] at h; exact ⟨h, fun q' e => by injection e; omega⟩
   obtain ⟨i1, i2, i3⟩ := changesE_ok key.1
   have i4 := i3 x.1 rfl
   refine ⟨fun c hc => ?_, List.Pairwise.cons i4 i2, fun q hq c hc => ?_⟩
   ·rcases List.mem_cons.1 hc with rfl | hc
    ·exact h1
    ·exact i1 c hc
   ·have h3 := key.2 q hq
    rcases List.mem_cons.1 hc with rfl | hc
    ·exact h3
    ·have := i4 c hc; omega
  ·rw [if_pos h1] at h; omega
theorem tabOk {ts : List Ty} {first : Int} {cs : List Ch} (h : tabE ts first cs = 0) : TabOk ts first cs := by
 by_cases h1 : ts.length > 250 ∨ cs.length > 1000
 ·rw [tabE_large h1] at h; omega
 ·by_cases h2 : ts.length = 0
  ·rw [tabE_form h1 h2] at h; omega
  ·by_cases h3 : typesE ts = 0
   ·by_cases h4 : 0 ≤ first ∧ first ≤ ts.length - 1
    ·rw [tabE_changes h1 h2 h3 h4] at h
     obtain ⟨i1, i2, _⟩ := changesE_ok h
     exact ⟨by omega, by omega, by omega, typesE_ok h3, h4.1, by omega, fun c hc => by have := i1 c hc; omega, i2⟩
    ·rw [tabE_first h1 h2 h3 h4] at h; omega
   ·rw [tabE_types h1 h2 h3] at h; exact absurd h h3
def tyIx (first : Int) (cs : List Ch) (time : Int) : Int := cs.foldl (fun k c => if c.1 ≤ time then c.2 else k) first
def tyZero : Ty := (0, false, ⟨#[]⟩)
def tabOf (ts : List Ty) (first : Int) (cs : List Ch) (time : Int) : Ty := ts.getD (tyIx first cs time).toNat tyZero
theorem tyIx_take_succ (first : Int) (cs : List Ch) (time : Int) (k : Nat) (h : k < cs.length) : tyIx first (cs.take (k + 1)) time = if cs[k].1 ≤ time then cs[k].2 else tyIx first (cs.take k) time := by
 unfold tyIx; rw [List.take_succ_eq_append_getElem h, List.foldl_append]; rfl
theorem tyIx_none {first : Int} {cs : List Ch} {time : Int} (h : ∀ c ∈ cs, ¬ c.1 ≤ time) : tyIx first cs time = first := by
 unfold tyIx
 induction cs with
 | nil => rfl
 | cons c r ih => rw [List.foldl_cons, if_neg (h c (by simp))]; exact ih (fun c hc => h c (by simp [hc]))
theorem tyIx_at {first : Int} {cs : List Ch} {time : Int} (k : Nat) (hk : k < cs.length) (h1 : cs[k].1 ≤ time) (h2 : ∀ j (hj : j < cs.length), k < j → ¬ cs[j].1 ≤ time) : tyIx first cs time = cs[k].2 := by
 have : tyIx first cs time = tyIx (tyIx first (cs.take (k + 1)) time) (cs.drop (k + 1)) time := by
  unfold tyIx; rw [← List.foldl_append, List.take_append_drop]
 rw [this, tyIx_none, tyIx_take_succ first cs time k hk, if_pos h1]
 intro c hc
 obtain ⟨i, hi, rfl⟩ := List.mem_iff_getElem.1 hc
 rw [List.getElem_drop]
 exact h2 _ _ (by omega)
theorem sorted_at {cs : List Ch} (h : cs.Pairwise (fun a b => a.1 < b.1)) {i j : Nat} (hj : j < cs.length) (hij : i < j) : (cs[i]'(by omega)).1 < cs[j].1 := (List.pairwise_iff_getElem.1 h) i j (by omega) hj hij
def chCount (cs : List Ch) (time : Int) : Nat := (List.range cs.length).countP (fun i => !decide (time < (cs.getD i (0, 0)).1))
theorem countP_prefix (n m : Nat) (p : Nat → Bool) (hm : m ≤ n) (h1 : ∀ i, i < m → p i = true) (h2 : ∀ i, m ≤ i → i < n → p i = false) : (List.range n).countP p = m := by
 rw [show n = m + (n - m) by omega, List.range_add, List.countP_append, List.countP_map]
 have a : (List.range m).countP p = m := by
  rw [List.countP_eq_length.2 (fun i hi => h1 i (by simpa using hi)), List.length_range]
 have b : (List.range (n - m)).countP (p ∘ (m + ·)) = 0 := by
  rw [List.countP_eq_zero]
  intro i hi
  have : i < n - m := by simpa using hi
  simp [h2 (m + i) (by omega) (by omega)]
 rw [a, b]; rfl
theorem chCount_spec {cs : List Ch} (h : cs.Pairwise (fun a b => a.1 < b.1)) (time : Int) : chCount cs time ≤ cs.length ∧ (∀ i (hi : i < cs.length), i < chCount cs time → cs[i].1 ≤ time) ∧ (∀ i (hi : i < cs.length), chCount cs time ≤ i → time < cs[i].1) := by
 have hd : ∀ i (hi : i < cs.length), (cs.getD i (0, 0)) = cs[i] := fun i hi => by simp [List.getD, hi]
 have : ∃ m, m ≤ cs.length ∧ (∀ i (hi : i < cs.length), i < m → cs[i].1 ≤ time) ∧ (∀ i (hi : i < cs.length), m ≤ i → ¬ cs[i].1 ≤ time) := by
  have ind : ∀ n, n ≤ cs.length → ∃ m, m ≤ n ∧ (∀ i (hi : i < cs.length), i < m → cs[i].1 ≤ time) ∧ (∀ i (hi : i < cs.length), m ≤ i → i < n → ¬ cs[i].1 ≤ time) := by
   intro n
   induction n with
   | zero => intro _; exact ⟨0, by omega, fun i _ h => by omega, fun i _ _ h => by omega⟩
   | succ n ih =>
    intro hn
    obtain ⟨m, hm, m1, m2⟩ := ih (by omega)
    by_cases hmn : m = n
    ·by_cases hx : (cs[n]'(by omega)).1 ≤ time
     ·refine ⟨n + 1, by omega, fun i hi h => ?_, fun i hi h1 h2 => by omega⟩
      by_cases e : i = n
      ·subst e; exact hx
      ·exact m1 i hi (by omega)
     ·refine ⟨m, by omega, m1, fun i hi h1 h2 => ?_⟩
      have e : i = n := by omega
      subst e; exact hx
    ·refine ⟨m, by omega, m1, fun i hi h1 h2 => ?_⟩
     by_cases e : i = n
     ·subst e
      have := m2 m (by omega) (by omega) (by omega)
      have := sorted_at h hi (show m < i by omega)
      omega
     ·exact m2 i hi h1 (by omega)
  obtain ⟨m, hm, m1, m2⟩ := ind cs.length (Nat.le_refl _)
  exact ⟨m, hm, m1, fun i hi h => m2 i hi h hi⟩
 obtain ⟨m, hm, m1, m2⟩ := this
 have e : chCount cs time = m := by
  refine countP_prefix _ _ _ hm (fun i hi => ?_) (fun i h1 h2 => ?_)
  ·have := m1 i (by omega) hi; rw [hd i (by omega)]; simpa using this
  ·have := m2 i h2 h1; rw [hd i h2]; simp at this ⊢; omega
 rw [e]; exact ⟨hm, m1, fun i hi h => Int.not_le.1 (m2 i hi h)⟩
end Go.Proofs.YthppifcggmdmoaaGreatDoor
namespace Go.Proofs.YthppifcggmdmoaaGreatDoor
open Go.RowKit
set_option linter.unusedVariables false
attribute [local go_sem ↓] Go.wp_at_zero Go.wp_at_succ

end Go.Proofs.YthppifcggmdmoaaGreatDoor
namespace Go.Proofs.YthppifcggmdmoaaGreatDoor
open Go.RowKit
set_option linter.unusedVariables false
attribute [local go_sem ↓] Go.wp_at_zero Go.wp_at_succ
end Go.Proofs.YthppifcggmdmoaaGreatDoor
namespace Go.Proofs.YthppifcggmdmoaaGreatDoor
open Go.RowKit
set_option linter.unusedVariables false
set_option maxHeartbeats 400000 in
theorem t_within (n a b : Int) (w : World) :
  Calls Tryz.prog 36 #[.int .i64 n, .int .i64 a, .int .i64 b] w fun e w' => e = .returned (.bool (decide (a ≤ n ∧ n ≤ b))) ∧ w = w' := by
 by_cases h1 : a ≤ n
 all_goals
  go_enter Tryz.func36, Tryz.ntmps36
  go_wp2
  go_ret
  exact ⟨ret_bool (by simp; omega), rfl⟩

set_option maxRecDepth 100000 in
set_option maxHeartbeats 4000000 in
theorem t_Check_short (A C : Option Addr) (capT capC : Nat) (ts : List Ty) (first : Int) (cs : List Ch) (w : World) (H : TabAt w A C capT capC ts cs) (h : (ts.length > 250 ∨ cs.length > 1000) ∨ ts.length = 0) :
  Calls Tryz.prog 11 #[.agg #[.slice A ts.length capT, .int .i64 first, .slice C cs.length capC]] w fun e w' => e = .returned (.int .i64 (tabE ts first cs)) ∧ Below w.heap.size w w' := by
 obtain ⟨m1, m2⟩ : capT ≤ maxLen ∧ capC ≤ maxLen := ⟨H.mT, H.mC⟩
 have m3 := H.cT
 have m4 := H.cC
 unfold maxLen at m1 m2
 by_cases h1 : 250 < ts.length
 ·have HE := Lib.hid (tabE_large (first := first) (Or.inl h1) : tabE ts first cs = 2)
  clear h
  go_enter Tryz.func11, Tryz.ntmps11
  go_wp2_with fail
  go_ret
  exact ⟨ret_int HE.out.symm, (by repeat (first | exact Below.refl _ _ | assumption | apply Below.drew | apply below_drewN | (refine Below.alloc ?_ (by simp; try omega) _) | (refine Below.setCell ?_ (by simp; try omega) _)))⟩
 ·by_cases h2 : 1000 < cs.length
  ·have HE := Lib.hid (tabE_large (first := first) (Or.inr h2) : tabE ts first cs = 2)
   clear h
   go_enter Tryz.func11, Tryz.ntmps11
   go_wp2_with fail
   go_ret
   exact ⟨ret_int HE.out.symm, (by repeat (first | exact Below.refl _ _ | assumption | apply Below.drew | apply below_drewN | (refine Below.alloc ?_ (by simp; try omega) _) | (refine Below.setCell ?_ (by simp; try omega) _)))⟩
  ·have h3 : ts.length = 0 := by omega
   have HE := Lib.hid (tabE_form (first := first) (by omega) h3 : tabE ts first cs = 5)
   have h4 : ((ts.length : Int) == 0) = true := by simp [h3]
   clear h h3
   go_enter Tryz.func11, Tryz.ntmps11
   go_wp2_with fail
   go_ret
   exact ⟨ret_int HE.out.symm, (by repeat (first | exact Below.refl _ _ | assumption | apply Below.drew | apply below_drewN | (refine Below.alloc ?_ (by simp; try omega) _) | (refine Below.setCell ?_ (by simp; try omega) _)))⟩

set_option maxRecDepth 100000 in
set_option maxHeartbeats 8000000 in
theorem t_Check_long (A C : Option Addr) (capT capC : Nat) (ts : List Ty) (first : Int) (cs : List Ch) (w : World) (H : TabAt w A C capT capC ts cs) (h1 : ts.length ≤ 250) (h2 : cs.length ≤ 1000) (h3 : 0 < ts.length) :
  Calls Tryz.prog 11 #[.agg #[.slice A ts.length capT, .int .i64 first, .slice C cs.length capC]] w fun e w' => e = .returned (.int .i64 (tabE ts first cs)) ∧ Below w.heap.size w w' := by
 obtain ⟨m1, m2⟩ : capT ≤ maxLen ∧ capC ≤ maxLen := ⟨H.mT, H.mC⟩
 have m3 := H.cT
 have m4 := H.cC
 unfold maxLen at m1 m2
 have h4 : ((ts.length : Int) == 0) = false := by rw [beq_eq_false_iff_ne]; omega
 go_enter Tryz.func11, Tryz.ntmps11
 go_wp2_with fail
 clear h4
 go_loopw [27] (fun i wr => ∃ k : Nat, k ≤ ts.length ∧ i = .int .i64 k ∧ Hid (typesE ts = typesE (ts.drop k)) ∧ TK w wr #[.slice A ts.length capT, .int .i64 first, .slice C cs.length capC]) (fun i _ => ts.length - (intOf i).toNat)
 case atStart => exact ⟨0, Nat.zero_le _, rfl, Lib.hid rfl, TK.box _ _ _⟩
 case round =>
  obtain ⟨k, hk, rfl, HT, HK⟩ := hrel
  by_cases hlt : k < ts.length
  ·have HN := H.names ts[k] (List.getElem_mem hlt)
   have HD := Lib.hid (typesE_drop ts k hlt)
   obtain ⟨b, o, rfl, hb, c0, c1, c2⟩ := ty_at (H.T.below HK.2.2) hlt
   have hcs := HK.1
   have hb' := Nat.lt_trans hb HK.2.1
   by_cases h5 : -75600 ≤ ts[k].1 ∧ ts[k].1 ≤ 75600
   ·have hd : decide (-75600 ≤ ts[k].1 ∧ ts[k].1 ≤ 75600) = true := by simpa using h5
    cases h6 : isAbbrB ts[k].2.2.data.toList with
    | true =>
     have HE := Lib.hid (show typesE ts = typesE (ts.drop (k + 1)) by rw [HT.out, HD.out, if_neg (by simpa using h5), h6]; rfl)
     clear h5
     go_wp2_with (first | (go_at_call 36; refine (t_within _ _ _ _).mono ?_; rintro e w' ⟨rfl, rfl⟩) | (go_at_call 37; refine (u_IsAbbr _ HN _).mono ?_; rintro e w' ⟨rfl, rfl⟩))
     exact ⟨⟨k + 1, by omega, by go_num, HE, HK.alloc _⟩, by simp [intOf]; omega⟩
    | false =>
     have HE := Lib.hid (show tabE ts first cs = 3 by
      have e : typesE ts = 3 := by rw [HT.out, HD.out, if_neg (by simpa using h5), h6]; rfl
      rw [tabE_types (by omega) (by omega) (by rw [e]; decide), e])
     clear h5
     go_wp2_with (first | (go_at_call 36; refine (t_within _ _ _ _).mono ?_; rintro e w' ⟨rfl, rfl⟩) | (go_at_call 37; refine (u_IsAbbr _ HN _).mono ?_; rintro e w' ⟨rfl, rfl⟩))
     go_ret
     exact ⟨ret_int HE.out.symm, (HK.alloc _).2.2⟩
   ·have hd : decide (-75600 ≤ ts[k].1 ∧ ts[k].1 ≤ 75600) = false := by simpa using h5
    have HE := Lib.hid (show tabE ts first cs = 1 by
     have e : typesE ts = 1 := by rw [HT.out, HD.out, if_pos h5]
     rw [tabE_types (by omega) (by omega) (by rw [e]; decide), e])
    clear h5
    go_wp2_with (first | (go_at_call 36; refine (t_within _ _ _ _).mono ?_; rintro e w' ⟨rfl, rfl⟩) | (go_at_call 37; refine (u_IsAbbr _ HN _).mono ?_; rintro e w' ⟨rfl, rfl⟩))
    go_ret
    exact ⟨ret_int HE.out.symm, (HK.alloc _).2.2⟩
  ·obtain rfl : k = ts.length := by omega
   have HT0 := Lib.hid (show typesE ts = 0 by rw [HT.out, List.drop_length]; rfl)
   clear HT
   have hcs := HK.1
   have hz := HK.2.1
   by_cases h5 : 0 ≤ first ∧ first ≤ ts.length - 1
   ·have hd : decide (0 ≤ first ∧ first ≤ (ts.length : Int) - 1) = true := by simpa using h5
    have HE := Lib.hid (show tabE ts first cs = changesE (ts.length - 1) none cs from tabE_changes (by omega) (by omega) HT0.out h5)
    clear h5
    go_wp2_with (first | (go_at_call 36; refine (t_within _ _ _ _).mono ?_; rintro e w' ⟨rfl, rfl⟩))
    clear hd hcs
    go_loopw [52] (fun i wr => ∃ k : Nat, k ≤ cs.length ∧ i = .int .i64 k ∧ Hid (tabE ts first cs = changesE (ts.length - 1) (prevAt cs k) (cs.drop k)) ∧ TK w wr #[.slice A ts.length capT, .int .i64 first, .slice C cs.length capC]) (fun i _ => cs.length - (intOf i).toNat)
    case atStart => exact ⟨0, Nat.zero_le _, rfl, Lib.hid HE.out, HK⟩
    case round =>
     clear HE HK hz
     obtain ⟨k, hk, rfl, HT, HK⟩ := hrel
     have hcs := HK.1
     have hz := HK.2.1
     by_cases hlt : k < cs.length
     ·obtain ⟨b, o, rfl, hb, c0, c1⟩ := ch_at (H.C.below HK.2.2) hlt
      have hb' := Nat.lt_trans hb HK.2.1
      by_cases h5 : -1099511627776 ≤ cs[k].1 ∧ cs[k].1 ≤ 1099511627776 ∧ 0 ≤ cs[k].2 ∧ cs[k].2 ≤ ts.length - 1
      ·have hd1 : decide (-1099511627776 ≤ cs[k].1 ∧ cs[k].1 ≤ 1099511627776) = true := by simp; omega
       have hd2 : decide (0 ≤ cs[k].2 ∧ cs[k].2 ≤ (ts.length : Int) - 1) = true := by simp; omega
       by_cases hk0 : k = 0
       ·have HE := Lib.hid (show tabE ts first cs = changesE (ts.length - 1) (prevAt cs (k + 1)) (cs.drop (k + 1)) by rw [HT.out]; exact ch_next hlt h5 (fun h0 => by omega))
        subst hk0
        clear h5
        simp only [Nat.zero_mul, Nat.add_zero] at c0 c1
        go_wp2_with (first | (go_at_call 36; refine (t_within _ _ _ _).mono ?_; rintro e w' ⟨rfl, rfl⟩))
        go_quiet (fail)
        go_wp2_with fail
        exact ⟨⟨1, by omega, by go_num, HE, (HK.alloc _).drewN _⟩, by simp [intOf]; omega⟩
       ·obtain ⟨b2, o2, e2, _, p0, _⟩ := ch_at (H.C.below HK.2.2) (show k - 1 < cs.length by omega)
        simp only [Option.some.injEq, Addr.mk.injEq, and_true] at e2
        obtain ⟨rfl, rfl⟩ := e2
        have hi1 : (0 : Int) ≤ (k : Int) - 1 := by omega
        have hi2 : (k : Int) - 1 < (cs.length : Int) := by omega
        have hi3 : 0 < k := by omega
        by_cases h6 : cs[k].1 ≤ cs[k - 1].1
        ·have HE := Lib.hid (show tabE ts first cs = 5 by rw [HT.out]; exact ch_form hlt (by omega) h5 h6)
         clear h5
         go_wp2_with (first | (go_at_call 36; refine (t_within _ _ _ _).mono ?_; rintro e w' ⟨rfl, rfl⟩))
         go_quiet (fail)
         go_wp2_with fail
         go_ret
         exact ⟨ret_int HE.out.symm, ((HK.alloc _).drewN _).2.2⟩
        ·have HE := Lib.hid (show tabE ts first cs = changesE (ts.length - 1) (prevAt cs (k + 1)) (cs.drop (k + 1)) by rw [HT.out]; exact ch_next hlt h5 (fun h0 => h6))
         clear h5
         go_wp2_with (first | (go_at_call 36; refine (t_within _ _ _ _).mono ?_; rintro e w' ⟨rfl, rfl⟩))
         go_quiet (fail)
         go_wp2_with fail
         exact ⟨⟨k + 1, by omega, by go_num, HE, (HK.alloc _).drewN _⟩, by simp [intOf]; omega⟩
      ·have HE := Lib.hid (show tabE ts first cs = 1 by rw [HT.out]; exact ch_bad hlt h5)
       by_cases h6 : -1099511627776 ≤ cs[k].1 ∧ cs[k].1 ≤ 1099511627776
       ·have hd1 : decide (-1099511627776 ≤ cs[k].1 ∧ cs[k].1 ≤ 1099511627776) = true := by simp; omega
        have hd2 : decide (0 ≤ cs[k].2 ∧ cs[k].2 ≤ (ts.length : Int) - 1) = false := by simp; omega
        clear h5 h6
        go_wp2_with (first | (go_at_call 36; refine (t_within _ _ _ _).mono ?_; rintro e w' ⟨rfl, rfl⟩))
        go_ret
        exact ⟨ret_int HE.out.symm, (HK.alloc _).2.2⟩
       ·have hd1 : decide (-1099511627776 ≤ cs[k].1 ∧ cs[k].1 ≤ 1099511627776) = false := by simp; omega
        clear h5 h6
        go_wp2_with (first | (go_at_call 36; refine (t_within _ _ _ _).mono ?_; rintro e w' ⟨rfl, rfl⟩))
        go_ret
        exact ⟨ret_int HE.out.symm, (HK.alloc _).2.2⟩
     ·obtain rfl : k = cs.length := by omega
      have HE := Lib.hid (show tabE ts first cs = 0 by rw [HT.out, List.drop_length]; rfl)
      go_wp2_with fail
      go_ret
      exact ⟨ret_int HE.out.symm, HK.2.2⟩
   ·have hd : decide (0 ≤ first ∧ first ≤ (ts.length : Int) - 1) = false := by simpa using h5
    have HE := Lib.hid (show tabE ts first cs = 1 from tabE_first (by omega) (by omega) HT0.out h5)
    clear h5
    go_wp2_with (first | (go_at_call 36; refine (t_within _ _ _ _).mono ?_; rintro e w' ⟨rfl, rfl⟩))
    go_ret
    exact ⟨ret_int HE.out.symm, HK.2.2⟩
theorem t_Check (A C : Option Addr) (capT capC : Nat) (ts : List Ty) (first : Int) (cs : List Ch) (w : World) (H : TabAt w A C capT capC ts cs) :
  Calls Tryz.prog 11 #[.agg #[.slice A ts.length capT, .int .i64 first, .slice C cs.length capC]] w fun e w' => e = .returned (.int .i64 (tabE ts first cs)) ∧ Below w.heap.size w w' := by
 by_cases h : (ts.length > 250 ∨ cs.length > 1000) ∨ ts.length = 0
 ·exact t_Check_short A C capT capC ts first cs w H h
 ·exact t_Check_long A C capT capC ts first cs w H (by omega) (by omega) (by omega)
end Go.Proofs.YthppifcggmdmoaaGreatDoor
namespace Go.Proofs.YthppifcggmdmoaaGreatDoor
open Go.RowKit
set_option linter.unusedVariables false
def inCells (n : Int) : List Value := [.int .i64 n]
theorem in_at {w : World} {B : Nat} {A : Option Addr} {xs : List Int} (h : SlAt w B 1 A (xs.map inCells)) {k : Nat} (hk : k < xs.length) :
  ∃ b o, A = some ⟨b, o, none⟩ ∧ b < B ∧ w.cell? ⟨b, o + k, none⟩ = some (.int .i64 xs[k]) := by
 obtain ⟨b, o, h1, h2, h3⟩ := h (by simp; omega)
 have e : (xs.map inCells).getD k [] = inCells xs[k] := by simp [List.getD, hk]
 have h4 := h3 k (by simpa using hk) 0 (by omega)
 rw [e, Nat.mul_one] at h4
 exact ⟨b, o, h1, h2, h4⟩
end Go.Proofs.YthppifcggmdmoaaGreatDoor

