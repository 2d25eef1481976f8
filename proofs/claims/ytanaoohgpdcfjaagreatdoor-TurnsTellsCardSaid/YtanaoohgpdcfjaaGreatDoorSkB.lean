/- slices.SortStableFunc at the turns' nominals: rotate. -/
import Derived.Test.YtanaoohgpdcfjaaGreatDoorSkA
namespace Go.Proofs.YtanaoohgpdcfjaaGreatDoor
open Go.RowKit
set_option linter.unusedVariables false
theorem s_swapRange' (base G cap N pa pb n : Nat) (P A B C S : List Nm) (cm : Value) (w : World) (hl : A.length = C.length) (hN : (P ++ A ++ B ++ C ++ S).length = N) (hpa : P.length = pa) (hpb : P.length + A.length + B.length = pb) (hna : A.length = n) (hn : N ≤ 100000) (H : NmAt w base G cap (P ++ A ++ B ++ C ++ S)) :
    Calls Tryz.prog 217 #[.slice (some ⟨G, 0, none⟩) N cap, .int .i64 pa, .int .i64 pb, .int .i64 n, cm] w
      fun e w' => e = .returned (.tuple #[]) ∧ NmAt w' base G cap (P ++ C ++ B ++ A ++ S) ∧ w.grownBy w' (some G) := by
  subst hN hpa hpb hna
  exact s_swapRange base G cap P A B C S cm w hl hn H
theorem grown_refl (w : World) (r : Option Nat) : w.grownBy w r := ⟨rfl, rfl, rfl, Nat.le_refl _, fun _ _ _ => rfl⟩
theorem grown_same {w w1 w2 : World} {G : Nat} (h : w.grownBy w1 (some G)) (k : w1.grownBy w2 (some G)) : w.grownBy w2 (some G) := h.andThen k (fun j hj => Or.inr hj)
set_option maxRecDepth 100000 in
set_option maxHeartbeats 8000000 in
theorem s_rotate (base G cap N a m b : Nat) (L U V R : List Nm) (cm : Value) (w : World) (hN : (L ++ U ++ V ++ R).length = N) (ha : L.length = a) (hm : L.length + U.length = m) (hb : L.length + U.length + V.length = b) (hn : N ≤ 100000) (hU : 0 < U.length) (hV : 0 < V.length) (H : NmAt w base G cap (L ++ U ++ V ++ R)) :
    Calls Tryz.prog 200 #[.slice (some ⟨G, 0, none⟩) N cap, .int .i64 a, .int .i64 m, .int .i64 b, cm] w
      fun e w' => e = .returned (.tuple #[]) ∧ NmAt w' base G cap (L ++ V ++ U ++ R) ∧ w.grownBy w' (some G) := by
  have hNl : L.length + U.length + V.length + R.length = N := by rw [← hN]; simp; omega
  have e1 : (m : Int) - (a : Int) = (U.length : Int) := by omega
  have e2 : (b : Int) - (m : Int) = (V.length : Int) := by omega
  obtain ⟨T, hT⟩ : ∃ T, L ++ V ++ U ++ R = T := ⟨_, rfl⟩
  rw [hT]
  have hmN : m ≤ N := by omega
  have H0 := Lib.hid (show ∃ L1 U1 V1 R1 : List Nm, U1.length = U.length ∧ V1.length = V.length ∧ L1.length + U1.length = m ∧ L1.length + U1.length + V1.length + R1.length = N ∧ L1 ++ V1 ++ U1 ++ R1 = T ∧ NmAt w base G cap (L1 ++ U1 ++ V1 ++ R1) from ⟨L, U, V, R, rfl, rfl, hm, hNl, hT, H⟩)
  obtain ⟨u0, hu0⟩ : ∃ n, U.length = n := ⟨_, rfl⟩
  obtain ⟨v0, hv0⟩ : ∃ n, V.length = n := ⟨_, rfl⟩
  rw [hu0] at H0 hU e1
  rw [hv0] at H0 hV e2
  have hu9 : u0 ≤ N := by omega
  have hv9 : v0 ≤ N := by omega
  have ha9 : a ≤ N := by omega
  have hb9 : b ≤ N := by omega
  clear hT H hN ha hm hb hNl hu0 hv0
  go_enter Tryz.func200, Tryz.ntmps200
  go_wp2_with fail
  go_loopw [10, 11] (fun i j wr => ∃ u v : Nat, 0 < u ∧ 0 < v ∧ u ≤ N ∧ v ≤ N ∧ i = .int .i64 u ∧ j = .int .i64 v ∧ Hid (∃ L1 U1 V1 R1 : List Nm, U1.length = u ∧ V1.length = v ∧ L1.length + U1.length = m ∧ L1.length + U1.length + V1.length + R1.length = N ∧ L1 ++ V1 ++ U1 ++ R1 = T ∧ NmAt wr base G cap (L1 ++ U1 ++ V1 ++ R1)) ∧ Hid (w.grownBy wr (some G))) (fun i j _ => (intOf i).toNat + (intOf j).toNat)
  case atStart => exact ⟨u0, v0, hU, hV, hu9, hv9, rfl, rfl, H0, Lib.hid (grown_refl w _)⟩
  case round =>
    clear H0 hU hV hu9 hv9 e1 e2
    obtain ⟨u, v, hu, hv, hu9, hv9, rfl, rfl, HK, HG⟩ := hrel
    obtain ⟨L1, U1, V1, R1, q1, q2, q3, q4, q5, q6⟩ := HK.out
    have HT := Lib.hid q5
    have HM := Lib.hid q6
    clear HK q5 q6
    obtain ⟨p, hp⟩ : ∃ n, L1.length = n := ⟨_, rfl⟩
    have e3 : (m : Int) - (u : Int) = (p : Int) := by omega
    have hp9 : p ≤ N := by omega
    have HQ := Lib.hid (And.intro q1 (And.intro q2 (And.intro q3 (And.intro q4 hp))))
    clear q1 q2 q3 q4 hp
    by_cases heq : u = v
    · subst heq
      have HS := Lib.hid (s_swapRange' base G cap N p m u L1 U1 [] V1 R1 cm wr (by rw [HQ.out.1, HQ.out.2.1]) (by have := HQ.out.2.2.2.1; simp; omega) HQ.out.2.2.2.2 (by have := HQ.out.2.2.1; simp; omega) HQ.out.1 hn (by simpa using HM.out))
      go_wp2_with fail
      refine HS.out.mono ?_
      rintro e w2 ⟨rfl, h1, h2⟩
      have HF := Lib.hid (And.intro h1 (grown_same HG.out h2))
      clear h1 h2 HS
      go_wp2_with fail
      go_end0
      refine ⟨rfl, ?_, HF.out.2⟩
      rw [← HT.out]
      simpa using HF.out.1
    · have hne : ((u : Int) == (v : Int)) = false := by rw [beq_eq_false_iff_ne]; omega
      have hne2 : ((u : Int) != (v : Int)) = true := by rw [bne_iff_ne]; omega
      by_cases hgt : v < u
      · have hgt2 : (v : Int) < (u : Int) := by omega
        have e4 : (u : Int) - (v : Int) = ((u - v : Nat) : Int) := by omega
        have HS := Lib.hid (s_swapRange' base G cap N p m v L1 (U1.take v) (U1.drop v) V1 R1 cm wr (by rw [List.length_take, HQ.out.1, HQ.out.2.1]; omega) (by have := HQ.out; simp; omega) HQ.out.2.2.2.2 (by have := HQ.out; rw [List.length_take, List.length_drop]; omega) (by rw [List.length_take, HQ.out.1]; omega) hn (by have := HM.out; rw [← List.take_append_drop v U1] at this; simpa using this))
        go_wp2_with fail
        refine HS.out.mono ?_
        rintro e w2 ⟨rfl, h1, h2⟩
        have HF := Lib.hid (And.intro h1 (grown_same HG.out h2))
        clear h1 h2 HS
        go_wp2_with fail
        refine ⟨⟨u - v, v, by omega, hv, by omega, hv9, by go_num, rfl, Lib.hid ⟨L1 ++ V1, U1.drop v, U1.take v, R1, ?_, ?_, ?_, ?_, ?_, ?_⟩, Lib.hid HF.out.2⟩, by simp only [intOf]; omega⟩
        · rw [List.length_drop, HQ.out.1]
        · rw [List.length_take, HQ.out.1]; omega
        · have := HQ.out; rw [List.length_append, List.length_drop]; omega
        · have := HQ.out; rw [List.length_append, List.length_drop, List.length_take]; omega
        · rw [← HT.out]
          have := List.take_append_drop v U1
          simp only [List.append_assoc]
          rw [← List.append_assoc (U1.take v), this]
        · have := HF.out.1; simpa using this
      · have hlt : u < v := by omega
        have hgt2 : ¬ (v : Int) < (u : Int) := by omega
        have e4 : (v : Int) - (u : Int) = ((v - u : Nat) : Int) := by omega
        have e5 : (m : Int) + (v : Int) - (u : Int) = ((m + v - u : Nat) : Int) := by omega
        have HS := Lib.hid (s_swapRange' base G cap N p (m + v - u) u L1 U1 (V1.take (v - u)) (V1.drop (v - u)) R1 cm wr (by rw [List.length_drop, HQ.out.1, HQ.out.2.1]; omega) (by have := HQ.out; simp; omega) HQ.out.2.2.2.2 (by have := HQ.out; rw [List.length_take]; omega) HQ.out.1 hn (by have := HM.out; rw [← List.take_append_drop (v - u) V1] at this; simpa using this))
        go_wp2_with fail
        refine HS.out.mono ?_
        rintro e w2 ⟨rfl, h1, h2⟩
        have HF := Lib.hid (And.intro h1 (grown_same HG.out h2))
        clear h1 h2 HS
        go_wp2_with fail
        refine ⟨⟨u, v - u, hu, by omega, hu9, by omega, rfl, by go_num, Lib.hid ⟨L1, V1.drop (v - u), V1.take (v - u), U1 ++ R1, ?_, ?_, ?_, ?_, ?_, ?_⟩, Lib.hid HF.out.2⟩, by simp only [intOf]; omega⟩
        · rw [List.length_drop, HQ.out.2.1]; omega
        · rw [List.length_take, HQ.out.2.1]; omega
        · have := HQ.out; rw [List.length_drop]; omega
        · have := HQ.out; rw [List.length_drop, List.length_take, List.length_append]; omega
        · rw [← HT.out]
          have := List.take_append_drop (v - u) V1
          simp only [List.append_assoc]
          rw [← List.append_assoc (V1.take (v - u)), this]
        · have := HF.out.1; simpa using this
end Go.Proofs.YtanaoohgpdcfjaaGreatDoor
