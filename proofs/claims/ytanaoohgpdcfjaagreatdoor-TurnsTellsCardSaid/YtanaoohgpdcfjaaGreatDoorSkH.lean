/- slices.SortStableFunc at the turns' nominals: blocks; the whole. -/
import Derived.Test.YtanaoohgpdcfjaaGreatDoorSkG
namespace Go.Proofs.YtanaoohgpdcfjaaGreatDoor
open Go.RowKit Go.Sort
set_option linter.unusedVariables false
/-- a list whose blocks of b are sorted, each by itself -/
def bsort (b : Nat) (X : List Nm) : List Nm :=
  if h : 0 < b ∧ b ≤ X.length then ssort Prod.fst (X.take b) ++ bsort b (X.drop b) else ssort Prod.fst X
termination_by X.length
decreasing_by rw [List.length_drop]; omega
theorem bsort_step {b : Nat} {X : List Nm} (h0 : 0 < b) (h : b ≤ X.length) : bsort b X = ssort Prod.fst (X.take b) ++ bsort b (X.drop b) := by rw [bsort, dif_pos ⟨h0, h⟩]
theorem bsort_end {b : Nat} {X : List Nm} (h : X.length < b) : bsort b X = ssort Prod.fst X := by rw [bsort, dif_neg (by omega)]
theorem bsort_le {b : Nat} {X : List Nm} (h0 : 0 < b) (h : X.length ≤ b) : bsort b X = ssort Prod.fst X := by
  by_cases he : X.length = b
  · rw [bsort_step h0 (by omega), List.take_of_length_le (by omega), List.drop_eq_nil_of_le (by omega), bsort_end (by simpa using h0)]
    show _ ++ [] = _
    rw [List.append_nil]
  · exact bsort_end (by omega)
theorem bsort_len (b : Nat) : ∀ (n : Nat) (X : List Nm), X.length ≤ n → (bsort b X).length = X.length
  | 0, X, h => by
    by_cases h1 : 0 < b ∧ b ≤ X.length
    · omega
    · rw [bsort, dif_neg h1, len_ssort]
  | n + 1, X, h => by
    by_cases h1 : 0 < b ∧ b ≤ X.length
    · rw [bsort_step h1.1 h1.2, List.length_append, len_ssort, bsort_len b n _ (by rw [List.length_drop]; omega), List.length_take, List.length_drop]; omega
    · rw [bsort, dif_neg h1, len_ssort]
set_option maxRecDepth 100000 in
set_option maxHeartbeats 8000000 in
theorem s_stable (base G cap N : Nat) (X : List Nm) (w : World) (hN : X.length = N) (hn : N ≤ 100000) (H : NmAt w base G cap X) :
    Calls Tryz.prog 146 #[.slice (some ⟨G, 0, none⟩) N cap, .int .i64 N, .func (.func 88) #[] #[]] w
      fun e w' => e = .returned (.tuple #[]) ∧ NmAt w' base G cap (ssort Prod.fst X) ∧ w.grownBy w' (some G) := by
  have HN := Lib.hid hN
  have H0 := Lib.hid (show NmAt w base G cap ([] ++ X) from H)
  have HI := Lib.hid (fun a b L X R w => s_insertion base G cap N a b L X R w)
  have HM := Lib.hid (sym_ok base G cap N hn)
  clear H hN
  go_enter Tryz.func146, Tryz.ntmps146
  go_wp2_with fail
  go_loopw [7, 8] (fun i j wr => ∃ (a : Nat) (P : List Nm), a ≤ N ∧ i = .int .i64 a ∧ j = .int .i64 (a + 20 : Nat) ∧ P.length = a ∧ Hid (bsort 20 X = P ++ bsort 20 (X.drop a)) ∧ Hid (NmAt wr base G cap (P ++ X.drop a)) ∧ Hid (w.grownBy wr (some G))) (fun i _ _ => N - (intOf i).toNat)
  case atStart => exact ⟨0, [], Nat.zero_le _, rfl, rfl, rfl, Lib.hid rfl, H0, Lib.hid (grown_refl w _)⟩
  case round =>
    clear H0
    obtain ⟨a, P, haN, rfl, rfl, hP, HB, HW, HG⟩ := hrel
    by_cases hlt : a + 20 ≤ N
    · obtain ⟨b, hb⟩ : ∃ b, a + 20 = b := ⟨_, rfl⟩
      rw [hb] at hlt ⊢
      obtain ⟨Y, hY⟩ : ∃ Y, X.drop a = Y := ⟨_, rfl⟩
      have hYl : Y.length = N - a := by rw [← hY, List.length_drop, HN.out]
      have hdd : X.drop b = Y.drop 20 := by rw [← hY, List.drop_drop, hb]
      rw [hY] at HB HW
      have HR := Lib.hid (HI.out a b P (Y.take 20) (Y.drop 20) wr (by rw [List.take_append_drop, List.length_append]; omega) hP (by rw [List.length_take]; omega) hn (by rw [List.take_append_drop]; exact HW.out))
      have HBB := Lib.hid (show bsort 20 X = (P ++ ssort Prod.fst (Y.take 20)) ++ bsort 20 (X.drop b) by rw [HB.out, bsort_step (by omega) (by omega), hdd, List.append_assoc])
      have HPL := Lib.hid (show (P ++ ssort Prod.fst (Y.take 20)).length = b by rw [List.length_append, len_ssort, List.length_take]; omega)
      have HDD := Lib.hid hdd
      clear hY hYl hdd HB HW hP
      go_wp2_with fail
      refine HR.out.mono ?_
      rintro e w2 ⟨rfl, h1, h2⟩
      have HF := Lib.hid (And.intro h1 (grown_same HG.out h2))
      clear h1 h2 HR HG
      go_wp2_with fail
      exact ⟨⟨b, P ++ ssort Prod.fst (Y.take 20), hlt, rfl, by go_num, HPL.out, HBB, Lib.hid (by rw [HDD.out, List.append_assoc]; exact HF.out.1), Lib.hid HF.out.2⟩, by simp only [intOf]; omega⟩
    · obtain ⟨Y, hY⟩ : ∃ Y, X.drop a = Y := ⟨_, rfl⟩
      have hYl : Y.length = N - a := by rw [← hY, List.length_drop, HN.out]
      rw [hY] at HB HW
      have HR := Lib.hid (HI.out a N P Y [] wr (by rw [List.append_nil, List.length_append]; omega) hP (by omega) hn (by rw [List.append_nil]; exact HW.out))
      have HBB := Lib.hid (show bsort 20 X = P ++ ssort Prod.fst Y by rw [HB.out, bsort_end (by omega)])
      clear hY hYl HB HW hP
      go_wp2_with fail
      refine HR.out.mono ?_
      rintro e w2 ⟨rfl, h1, h2⟩
      rw [List.append_nil] at h1
      have HF := Lib.hid (And.intro (show NmAt w2 base G cap (bsort 20 X) by rw [HBB.out]; exact h1) (grown_same HG.out h2))
      clear h1 h2 HR HG HBB
      go_wp2_with fail
      go_loopw [6] (fun i wr => ∃ bs : Nat, 20 ≤ bs ∧ bs ≤ 2 * N + 20 ∧ i = .int .i64 bs ∧ Hid (NmAt wr base G cap (bsort bs X)) ∧ Hid (w.grownBy wr (some G))) (fun i _ => N - (intOf i).toNat)
      case atStart => exact ⟨20, Nat.le_refl _, by omega, rfl, Lib.hid HF.out.1, Lib.hid HF.out.2⟩
      case round =>
        clear HF
        obtain ⟨bs, hbs, hbsN, rfl, HW, HG⟩ := hrel
        by_cases hbn : bs < N
        · have HW0 := Lib.hid (show NmAt wr base G cap ([] ++ bsort bs (X.drop 0)) from HW.out)
          clear HW
          obtain ⟨bb, hbb⟩ : ∃ bb, 2 * bs = bb := ⟨_, rfl⟩
          have ebb : 2 * (bs : Int) = (bb : Int) := by omega
          have ebb2 : (bs : Int) * 2 = (bb : Int) := by omega
          go_wp2_with fail
          go_loopw [7, 8] (fun i j wr => ∃ (a : Nat) (P : List Nm), a ≤ N ∧ i = .int .i64 a ∧ j = .int .i64 (a + bb : Nat) ∧ P.length = a ∧ Hid (bsort bb X = P ++ bsort bb (X.drop a)) ∧ Hid (NmAt wr base G cap (P ++ bsort bs (X.drop a))) ∧ Hid (w.grownBy wr (some G))) (fun i _ _ => N - (intOf i).toNat)
          case atStart => exact ⟨0, [], Nat.zero_le _, rfl, by go_num, rfl, Lib.hid rfl, HW0, HG⟩
          case round =>
            clear HW0 HG
            obtain ⟨a, P, haN, rfl, rfl, hP, HB, HW, HG⟩ := hrel
            obtain ⟨Y, hY⟩ : ∃ Y, X.drop a = Y := ⟨_, rfl⟩
            have hYl : Y.length = N - a := by rw [← hY, List.length_drop, HN.out]
            rw [hY] at HB HW
            obtain ⟨m, hm⟩ : ∃ m, a + bs = m := ⟨_, rfl⟩
            by_cases hlt2 : a + bb ≤ N
            · obtain ⟨b, hb⟩ : ∃ b, a + bb = b := ⟨_, rfl⟩
              rw [hb] at hlt2 ⊢
              have hdd : X.drop b = Y.drop bb := by rw [← hY, List.drop_drop, hb]
              have hs1 : bsort bs Y = ssort Prod.fst (Y.take bs) ++ (ssort Prod.fst ((Y.drop bs).take bs) ++ bsort bs (X.drop b)) := by
                rw [bsort_step (by omega) (by omega), bsort_step (by omega) (by rw [List.length_drop]; omega), List.drop_drop, hdd, show bs + bs = bb by omega]
              have hs2 : bsort bb Y = ssort Prod.fst (Y.take bb) ++ bsort bb (X.drop b) := by rw [bsort_step (by omega) (by omega), hdd]
              have hs3 : smerge Prod.fst (ssort Prod.fst (Y.take bs)) (ssort Prod.fst ((Y.drop bs).take bs)) = ssort Prod.fst (Y.take bb) := by
                rw [← ssort_append, ← List.take_add, show bs + bs = bb by omega]
              have hl1 : (ssort Prod.fst (Y.take bs)).length = bs := by rw [len_ssort, List.length_take]; omega
              have hl2 : (ssort Prod.fst ((Y.drop bs).take bs)).length = bs := by rw [len_ssort, List.length_take, List.length_drop]; omega
              have hl3 : (ssort Prod.fst (Y.take bb)).length = bb := by rw [len_ssort, List.length_take]; omega
              have hl4 : (bsort bs (X.drop b)).length = N - b := by rw [bsort_len bs _ _ (Nat.le_refl _), List.length_drop, HN.out]
              rw [hs1] at HW
              have HR := Lib.hid (HM.out (bs + bs) a m b P (ssort Prod.fst (Y.take bs)) (ssort Prod.fst ((Y.drop bs).take bs)) (bsort bs (X.drop b)) wr (by omega) (by rw [List.length_append, List.length_append, List.length_append]; omega) hP (by omega) (by omega) (by omega) (by omega) (nms_ssort _) (nms_ssort _) HW.out)
              have HBB := Lib.hid (show bsort bb X = (P ++ ssort Prod.fst (Y.take bb)) ++ bsort bb (X.drop b) by rw [HB.out, hs2, List.append_assoc])
              have HPL := Lib.hid (show (P ++ ssort Prod.fst (Y.take bb)).length = b by rw [List.length_append]; omega)
              have HS3 := Lib.hid hs3
              have em : (a : Int) + (bs : Int) = (m : Int) := by omega
              clear hY hYl hdd HB HW hP hs1 hs2 hs3 hl1 hl2 hl3 hl4
              go_wp2_with fail
              refine HR.out.mono ?_
              rintro e w3 ⟨rfl, h1, h2⟩
              rw [HS3.out] at h1
              have HF := Lib.hid (And.intro h1 (grown_same HG.out h2))
              clear h1 h2 HR HG HS3
              go_wp2_with fail
              exact ⟨⟨b, P ++ ssort Prod.fst (Y.take bb), hlt2, rfl, by go_num, HPL.out, HBB, Lib.hid (by rw [List.append_assoc]; exact HF.out.1), Lib.hid HF.out.2⟩, by simp only [intOf]; omega⟩
            · have em : (a : Int) + (bs : Int) = (m : Int) := by omega
              have hs2 : bsort bb Y = ssort Prod.fst Y := bsort_end (by omega)
              by_cases hmN : m < N
              · have hs1 : bsort bs Y = ssort Prod.fst (Y.take bs) ++ ssort Prod.fst (Y.drop bs) := by
                  rw [bsort_step (by omega) (by omega), bsort_end (X := Y.drop bs) (by rw [List.length_drop]; omega)]
                have hs3 : smerge Prod.fst (ssort Prod.fst (Y.take bs)) (ssort Prod.fst (Y.drop bs)) = ssort Prod.fst Y := by
                  rw [← ssort_append, List.take_append_drop]
                have hl1 : (ssort Prod.fst (Y.take bs)).length = bs := by rw [len_ssort, List.length_take]; omega
                have hl2 : (ssort Prod.fst (Y.drop bs)).length = N - m := by rw [len_ssort, List.length_drop]; omega
                rw [hs1] at HW
                have HR := Lib.hid (HM.out (bs + bs) a m N P (ssort Prod.fst (Y.take bs)) (ssort Prod.fst (Y.drop bs)) [] wr (by omega) (by rw [List.append_nil, List.length_append, List.length_append]; omega) hP (by omega) (by omega) (by omega) (by omega) (nms_ssort _) (nms_ssort _) (by rw [List.append_nil]; exact HW.out))
                have HBB := Lib.hid (show bsort bb X = P ++ (smerge Prod.fst (ssort Prod.fst (Y.take bs)) (ssort Prod.fst (Y.drop bs)) ++ []) by rw [HB.out, hs2, hs3, List.append_nil])
                clear hY hYl HB HW hP hs1 hs2 hs3 hl1 hl2
                go_wp2_with fail
                refine HR.out.mono ?_
                rintro e w3 ⟨rfl, h1, h2⟩
                rw [← HBB.out] at h1
                have HF := Lib.hid (And.intro h1 (grown_same HG.out h2))
                clear h1 h2 HR HG HBB
                go_wp2_with fail
                exact ⟨⟨bb, by omega, by omega, by go_num, Lib.hid HF.out.1, Lib.hid HF.out.2⟩, by simp only [intOf]; omega⟩
              · have HBB := Lib.hid (show bsort bb X = P ++ bsort bs Y by rw [HB.out, hs2, bsort_le (by omega) (by omega)])
                have HWW := Lib.hid (show NmAt wr base G cap (bsort bb X) by rw [HBB.out]; exact HW.out)
                clear hY hYl HB HW hP hs2 HBB
                go_wp2_with fail
                exact ⟨⟨bb, by omega, by omega, by go_num, HWW, HG⟩, by simp only [intOf]; omega⟩
        · go_wp2_with fail
          go_end0
          refine ⟨rfl, ?_, HG.out⟩
          have hh := HW.out
          rwa [bsort_le (by omega) (by rw [HN.out]; omega)] at hh
set_option maxRecDepth 100000 in
set_option maxHeartbeats 4000000 in
theorem s_SortStable (base G cap : Nat) (X : List Nm) (w : World) (hn : X.length ≤ 100000) (H : NmAt w base G cap X) :
    Calls Tryz.prog 87 #[.slice (some ⟨G, 0, none⟩) X.length cap, .func (.func 88) #[] #[]] w
      fun e w' => e = .returned (.tuple #[]) ∧ NmAt w' base G cap (ssort Prod.fst X) ∧ w.grownBy w' (some G) := by
  have HC := Lib.hid (s_stable base G cap X.length X w rfl hn H)
  obtain ⟨N, hN⟩ : ∃ N, X.length = N := ⟨_, rfl⟩
  rw [hN] at HC ⊢
  clear hn H hN
  go_enter Tryz.func87, Tryz.ntmps87
  go_wp2_with fail
  refine HC.out.mono ?_
  rintro e w2 ⟨rfl, h1, h2⟩
  go_wp2_with fail
  go_end0
  exact ⟨rfl, h1, h2⟩
end Go.Proofs.YtanaoohgpdcfjaaGreatDoor
