/- Walk of table.Of. -/
import Derived.Test.YtbnajjfkkgmflaaOpn
import Derived.Test.YtbnajjfkkgmflaaTabQ
import Derived.Test.YtbnajjfkkgmflaaBase
import Derived.Test.YtbnajjfkkgmflaaShelf
import Derived.Deep.RegionHeld3
import Derived.Deep.DrawnRows
namespace Go.Proofs.Ytbnajjfkkgmflaa
open Go.RowKit
set_option linter.unusedVariables false
attribute [local go_sem ↓] Go.wp_at_zero Go.wp_at_succ

set_option maxHeartbeats 1000000 in
theorem t_Of1 (i n cap b o b1 b2 : Nat) (v time : Int) (W : World) (hi : i < n) (hc : n ≤ cap) (hm : cap ≤ maxLen) (h1 : W.cell? ⟨b1, 2, none⟩ = some (.slice (some ⟨b, o, none⟩) n cap)) (h2 : W.cell? ⟨b2, 0, none⟩ = some (.int .i64 time))
    (h3 : W.cell? ⟨b, o + i * 2, none⟩ = some (.int .i64 v)) :
    Calls Try.prog 24 #[.int .i64 (i : Int), .pointer (some ⟨b1, 0, none⟩), .pointer (some ⟨b2, 0, none⟩)] W fun e w' => e = .returned (.bool (decide (time < v))) ∧ ∃ q, w' = W.drewN q := by
  unfold maxLen at hm
  have hi1 : (0 : Int) ≤ (i : Int) := by omega
  have hi2 : (i : Int) < (n : Int) := by omega
  go_enter Try.func24, Try.ntmps24
  go_wp2_with fail
  go_quiet (fail)
  go_wp2_with fail
  go_ret
  exact ⟨rfl, _, rfl⟩

theorem t_OfSearch (A C : Option Addr) (capT capC : Nat) (ts : List Ty) (first : Int) (cs : List Ch) (time : Int) (W : World) (b1 b2 : Nat) (H : TabAt W A C capT capC ts cs) (hs : cs.Pairwise (fun a b => a.1 < b.1))
    (h1 : W.cell? ⟨b1, 2, none⟩ = some (.slice C cs.length capC)) (h2 : W.cell? ⟨b2, 0, none⟩ = some (.int .i64 time)) (hb1 : b1 < W.heap.size) (hb2 : b2 < W.heap.size) (hn : cs.length ≤ 100000) :
    Calls Try.prog 23 #[.int .i64 (cs.length : Int), .func (.func 24) #[] #[.pointer (some ⟨b1, 0, none⟩), .pointer (some ⟨b2, 0, none⟩)]] W
      fun e w' => e = .returned (.int .i64 (chCount cs time : Nat)) ∧ Below W.heap.size W w' := by
  refine (Any.sort_Search Try.search 24 #[.pointer (some ⟨b1, 0, none⟩), .pointer (some ⟨b2, 0, none⟩)] cs.length (fun i => decide (time < (cs.getD i (0, 0)).1)) W (enters_of Try.func24 (by kernel_rfl) rfl) (by omega) ?_ ?_).mono ?_
  · intro m os i hi
    have hbl := below_grown_sl W.heap.size W m os (Nat.le_refl _)
    obtain ⟨b, o, hA, hb, c0, _⟩ := ch_at (H.C.below hbl) hi
    have hd : (cs.getD i (0, 0)) = cs[i] := by simp [List.getD, hi]
    rw [hd]
    subst hA
    refine (t_Of1 i cs.length capC b o b1 b2 cs[i].1 time _ hi H.cC H.mC ((hbl.cell (by exact hb1)).trans h1) ((hbl.cell (by exact hb2)).trans h2) c0).mono ?_
    rintro e w' ⟨rfl, q, rfl⟩
    exact ⟨rfl, q, #[], by rw [Go.Sort.grow_empty]⟩
  · intro a b hab hb h
    have e1 : (cs.getD a (0, 0)) = cs[a] := by simp [List.getD, show a < cs.length by omega]
    have e2 : (cs.getD b (0, 0)) = cs[b] := by simp [List.getD, hb]
    rw [e1] at h; rw [e2]
    by_cases e : a = b
    · subst e; exact h
    · have := sorted_at hs hb (show a < b by omega)
      simp at h ⊢; omega
  · rintro e w' ⟨rfl, q, os, rfl⟩
    exact ⟨rfl, below_grown_sl W.heap.size W q os (Nat.le_refl _)⟩

set_option maxRecDepth 100000 in
set_option maxHeartbeats 4000000 in
theorem t_Of (A C : Option Addr) (capT capC : Nat) (ts : List Ty) (first : Int) (cs : List Ch) (time : Int) (w : World) (H : TabAt w A C capT capC ts cs) (K : TabOk ts first cs) :
    Calls Try.prog 13 #[.agg #[.slice A ts.length capT, .int .i64 first, .slice C cs.length capC], .int .i64 time] w
      fun e w' => e = .returned (.agg #[.int .i64 (tabOf ts first cs time).1, .bool (tabOf ts first cs time).2.1, .string (tabOf ts first cs time).2.2]) ∧ Below w.heap.size w w' := by
  obtain ⟨q1, q2, q3, q4, q5, hb0⟩ := boxes3 w #[.slice A ts.length capT, .int .i64 first, .slice C cs.length capC] #[.int .i64 time] #[.int .i64 0, .bool false, .string ⟨#[]⟩] 25 3 45
  have m1 := H.mT
  have m2 := H.mC
  have m3 := H.cT
  have m4 := H.cC
  have k1 := K.tmax
  have k2 := K.cmax
  have k3 := K.first0
  have k4 := K.first1
  unfold maxLen at m1 m2
  have HIX := Lib.hid (tyIx_range time K)
  have HCN := Lib.hid (chCount_spec K.sorted time)
  have hS := t_OfSearch A C capT capC ts first cs time _ w.heap.size (w.heap.size + 1) (H.below hb0) K.sorted (q1 2) (q2 0) (by rw [q5]; omega) (by rw [q5]; omega) (by omega)
  have HS := Lib.hid hS
  clear hS
  have Q1 := Lib.hid q1
  have Q2 := Lib.hid q2
  have Q3 := Lib.hid q3
  have Q4 := Lib.hid q4
  have Q5 := Lib.hid q5
  clear q1 q2 q3 q4 q5
  go_enter Try.func13, Try.ntmps13
  go_wp2_with fail
  have q1 := Q1.out
  have q3 := Q3.out
  have q4 := Q4.out
  have q5 := Q5.out
  refine HS.out.mono ?_
  rintro e w1 ⟨rfl, hb⟩
  have hB := hb0.trans (hb.mono hb0.size)
  have hsz : w.heap.size + 1 + 1 < w1.heap.size := by have := hb.size; omega
  have hcs : ∀ i, w1.cell? ⟨w.heap.size, i, none⟩ = (#[.slice A ts.length capT, .int .i64 first, .slice C cs.length capC] : Array Value)[i]? := fun i => (hb.cell (by rw [q5]; show w.heap.size < _; omega)).trans (q1 i)
  have hr : ∀ i, w1.cell? ⟨w.heap.size + 1 + 1, i, none⟩ = (#[.int .i64 0, .bool false, .string ⟨#[]⟩] : Array Value)[i]? := fun i => (hb.cell (by rw [q5]; exact Nat.lt_succ_self _)).trans (q3 i)
  have hfr : ∀ i, w1.frozen? ⟨w.heap.size + 1 + 1, i, none⟩ = false := fun i => (hb.frozen (by rw [q5]; exact Nat.lt_succ_self _)).trans (q4 i)
  have H1 := H.below hB
  clear hb hb0 HS q1 q3 q4 q5 Q1 Q2 Q3 Q4 Q5
  by_cases h0 : chCount cs time = 0
  · have hi0 : tyIx first cs time = first := tyIx_none (fun c hc => by
      obtain ⟨i, hi, rfl⟩ := List.mem_iff_getElem.1 hc
      exact Int.not_le.2 (HCN.out.2.2 i hi (by rw [h0]; exact Nat.zero_le _)))
    have hfn : first.toNat < ts.length := by omega
    obtain ⟨b, o, rfl, hb, c0, c1, c2⟩ := ty_at H1.T hfn
    have HE := Lib.hid (show tabOf ts first cs time = ts[first.toNat] by rw [tabOf, hi0]; simp [List.getD, hfn])
    rw [h0]
    clear hi0 h0 HIX HCN
    go_wp2_with fail
    refine bodyPost_ret (v := .agg #[.int .i64 ts[first.toNat].1, .bool ts[first.toNat].2.1, .string ts[first.toNat].2.2]) (by simp [results, Try.results13, go_sem, hr]) rfl ⟨by rw [HE.out], (by repeat (first | exact Below.refl _ _ | assumption | apply Below.drew | apply below_drewN | (refine Below.alloc ?_ (by simp; try omega) _) | (refine Below.setCell ?_ (by simp; try omega) _)))⟩
  · obtain ⟨n1, n2, n3⟩ := HCN.out
    have hkn : chCount cs time - 1 < cs.length := by omega
    have hi0 : tyIx first cs time = cs[chCount cs time - 1].2 := tyIx_at (chCount cs time - 1) hkn (n2 _ hkn (by omega)) (fun j hj hlt => Int.not_le.2 (n3 j hj (by omega)))
    have hr2 := HIX.out
    rw [hi0] at hr2
    obtain ⟨b, o, rfl, hb, c0, c1⟩ := ch_at (H.C.below hB) hkn
    have htn : cs[chCount cs time - 1].2.toNat < ts.length := by omega
    obtain ⟨bt, ot, rfl, hbt, d0, d1, d2⟩ := ty_at (H.T.below hB) htn
    have HE := Lib.hid (show tabOf ts first cs time = ts[cs[chCount cs time - 1].2.toNat] by rw [tabOf, hi0]; simp [List.getD, htn])
    obtain ⟨tt, htt⟩ : ∃ tt : Ty, ts[cs[chCount cs time - 1].2.toNat] = tt := ⟨_, rfl⟩
    rw [htt] at d0 d1 d2 HE
    clear htt
    obtain ⟨k, hk⟩ : ∃ k : Nat, chCount cs time = k + 1 := ⟨chCount cs time - 1, by omega⟩
    obtain ⟨ty, hty⟩ : ∃ ty : Int, cs[chCount cs time - 1].2 = ty := ⟨_, rfl⟩
    simp only [hty] at hr2 d0 d1 d2 c1
    simp only [hk, Nat.add_sub_cancel] at c0 c1
    rw [hk]
    have hk1 : ((k : Int) + 1 == 0) = false := by rw [beq_eq_false_iff_ne]; omega
    obtain ⟨r1, r2⟩ := hr2
    have hkl : k < cs.length := by omega
    have hk2 : (0 : Int) ≤ (k : Int) := by omega
    have hk3 : (k : Int) < (cs.length : Int) := by omega
    obtain ⟨ck, hck⟩ : ∃ ck : Int, cs[k].1 = ck := ⟨_, rfl⟩
    rw [hck] at c0
    clear hi0 h0 HIX HCN n1 n2 n3 hty hk hkn htn hck
    go_wp2_with fail
    have hw1 : IntKind.i64.wrap ((k : Int) + 1 - 1) = (k : Int) := by rw [show (k : Int) + 1 - 1 = k by omega]; exact IntWalk.i64_in _ (by omega)
    have hw2 : IntKind.i64.wrap (k : Int) = (k : Int) := IntWalk.i64_in _ (by omega)
    have hw3 : (k : Int).toNat = k := by omega
    go_region_held3 (fun w' => (∀ i, w'.cell? ⟨w.heap.size, i, none⟩ = (#[.slice (some ⟨bt, ot, none⟩) ts.length capT, .int .i64 first, .slice (some ⟨b, o, none⟩) cs.length capC] : Array Value)[i]?) ∧ w'.cell? ⟨b, o + k * 2 + 1, none⟩ = some (.int .i64 ty) ∧ w'.cell? ⟨bt, ot + ty.toNat * 3, none⟩ = some (.int .i64 tt.1) ∧ w'.cell? ⟨bt, ot + ty.toNat * 3 + 1, none⟩ = some (.bool tt.2.1) ∧ w'.cell? ⟨bt, ot + ty.toNat * 3 + 2, none⟩ = some (.string tt.2.2))
      (first | exact ⟨hcs, c1, d0, d1, d2⟩ | exact ⟨fun i => (far3 (by show w.heap.size + 1 + 1 ≠ w.heap.size; omega)).trans (hcs i), (far3 (by show w.heap.size + 1 + 1 ≠ b; omega)).trans c1, (far3 (by show w.heap.size + 1 + 1 ≠ bt; omega)).trans d0, (far3 (by show w.heap.size + 1 + 1 ≠ bt; omega)).trans d1, (far3 (by show w.heap.size + 1 + 1 ≠ bt; omega)).trans d2⟩)
      (fail)
    go_wp2_with fail
    refine bodyPost_ret (v := .agg #[.int .i64 tt.1, .bool tt.2.1, .string tt.2.2]) (by simp [results, Try.results13, go_sem, hr]) rfl ⟨by rw [HE.out], (by repeat (first | exact Below.refl _ _ | assumption | apply Below.drew | apply below_drewN | (refine Below.alloc ?_ (by simp; try omega) _) | (refine Below.setCell ?_ (by simp; try omega) _)))⟩
end Go.Proofs.Ytbnajjfkkgmflaa
