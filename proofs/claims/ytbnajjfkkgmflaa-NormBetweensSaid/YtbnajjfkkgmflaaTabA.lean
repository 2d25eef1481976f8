/- Walk of table.Check. -/
import Derived.Test.YtbnajjfkkgmflaaOpn
import Derived.Test.YtbnajjfkkgmflaaRuleA
namespace Go.Proofs.Ytbnajjfkkgmflaa
open Go.RowKit
set_option linter.unusedVariables false
set_option maxHeartbeats 400000 in
theorem t_within (n a b : Int) (w : World) :
    Calls Try.prog 27 #[.int .i64 n, .int .i64 a, .int .i64 b] w fun e w' => e = .returned (.bool (decide (a ≤ n ∧ n ≤ b))) ∧ w = w' := by
  by_cases h1 : a ≤ n
  all_goals
    go_enter Try.func27, Try.ntmps27
    go_wp2
    go_ret
    exact ⟨ret_bool (by simp; omega), rfl⟩

set_option maxRecDepth 100000 in
set_option maxHeartbeats 4000000 in
theorem t_Check_short (A C : Option Addr) (capT capC : Nat) (ts : List Ty) (first : Int) (cs : List Ch) (w : World) (H : TabAt w A C capT capC ts cs) (h : (ts.length > 250 ∨ cs.length > 1000) ∨ ts.length = 0) :
    Calls Try.prog 15 #[.agg #[.slice A ts.length capT, .int .i64 first, .slice C cs.length capC]] w fun e w' => e = .returned (.int .i64 (tabE ts first cs)) ∧ Below w.heap.size w w' := by
  obtain ⟨m1, m2⟩ : capT ≤ maxLen ∧ capC ≤ maxLen := ⟨H.mT, H.mC⟩
  have m3 := H.cT
  have m4 := H.cC
  unfold maxLen at m1 m2
  by_cases h1 : 250 < ts.length
  · have HE := Lib.hid (tabE_large (first := first) (Or.inl h1) : tabE ts first cs = 2)
    clear h
    go_enter Try.func15, Try.ntmps15
    go_wp2_with fail
    go_ret
    exact ⟨ret_int HE.out.symm, (by repeat (first | exact Below.refl _ _ | assumption | apply Below.drew | apply below_drewN | (refine Below.alloc ?_ (by simp; try omega) _) | (refine Below.setCell ?_ (by simp; try omega) _)))⟩
  · by_cases h2 : 1000 < cs.length
    · have HE := Lib.hid (tabE_large (first := first) (Or.inr h2) : tabE ts first cs = 2)
      clear h
      go_enter Try.func15, Try.ntmps15
      go_wp2_with fail
      go_ret
      exact ⟨ret_int HE.out.symm, (by repeat (first | exact Below.refl _ _ | assumption | apply Below.drew | apply below_drewN | (refine Below.alloc ?_ (by simp; try omega) _) | (refine Below.setCell ?_ (by simp; try omega) _)))⟩
    · have h3 : ts.length = 0 := by omega
      have HE := Lib.hid (tabE_form (first := first) (by omega) h3 : tabE ts first cs = 5)
      have h4 : ((ts.length : Int) == 0) = true := by simp [h3]
      clear h h3
      go_enter Try.func15, Try.ntmps15
      go_wp2_with fail
      go_ret
      exact ⟨ret_int HE.out.symm, (by repeat (first | exact Below.refl _ _ | assumption | apply Below.drew | apply below_drewN | (refine Below.alloc ?_ (by simp; try omega) _) | (refine Below.setCell ?_ (by simp; try omega) _)))⟩

set_option maxRecDepth 100000 in
set_option maxHeartbeats 8000000 in
theorem t_Check_long (A C : Option Addr) (capT capC : Nat) (ts : List Ty) (first : Int) (cs : List Ch) (w : World) (H : TabAt w A C capT capC ts cs) (h1 : ts.length ≤ 250) (h2 : cs.length ≤ 1000) (h3 : 0 < ts.length) :
    Calls Try.prog 15 #[.agg #[.slice A ts.length capT, .int .i64 first, .slice C cs.length capC]] w fun e w' => e = .returned (.int .i64 (tabE ts first cs)) ∧ Below w.heap.size w w' := by
  obtain ⟨m1, m2⟩ : capT ≤ maxLen ∧ capC ≤ maxLen := ⟨H.mT, H.mC⟩
  have m3 := H.cT
  have m4 := H.cC
  unfold maxLen at m1 m2
  have h4 : ((ts.length : Int) == 0) = false := by rw [beq_eq_false_iff_ne]; omega
  go_enter Try.func15, Try.ntmps15
  go_wp2_with fail
  clear h4
  go_loopw [27] (fun i wr => ∃ k : Nat, k ≤ ts.length ∧ i = .int .i64 k ∧ Hid (typesE ts = typesE (ts.drop k)) ∧ TK w wr #[.slice A ts.length capT, .int .i64 first, .slice C cs.length capC]) (fun i _ => ts.length - (intOf i).toNat)
  case atStart => exact ⟨0, Nat.zero_le _, rfl, Lib.hid rfl, TK.box _ _ _⟩
  case round =>
    obtain ⟨k, hk, rfl, HT, HK⟩ := hrel
    by_cases hlt : k < ts.length
    · have HN := H.names ts[k] (List.getElem_mem hlt)
      have HD := Lib.hid (typesE_drop ts k hlt)
      obtain ⟨b, o, rfl, hb, c0, c1, c2⟩ := ty_at (H.T.below HK.2.2) hlt
      have hcs := HK.1
      have hb' := Nat.lt_trans hb HK.2.1
      by_cases h5 : -75600 ≤ ts[k].1 ∧ ts[k].1 ≤ 75600
      · have hd : decide (-75600 ≤ ts[k].1 ∧ ts[k].1 ≤ 75600) = true := by simpa using h5
        cases h6 : isAbbrB ts[k].2.2.data.toList with
        | true =>
          have HE := Lib.hid (show typesE ts = typesE (ts.drop (k + 1)) by rw [HT.out, HD.out, if_neg (by simpa using h5), h6]; rfl)
          clear h5
          go_wp2_with (first | (go_at_call 27; refine (t_within _ _ _ _).mono ?_; rintro e w' ⟨rfl, rfl⟩) | (go_at_call 28; refine (u_IsAbbr _ HN _).mono ?_; rintro e w' ⟨rfl, rfl⟩))
          exact ⟨⟨k + 1, by omega, by go_num, HE, HK.alloc _⟩, by simp [intOf]; omega⟩
        | false =>
          have HE := Lib.hid (show tabE ts first cs = 3 by
            have e : typesE ts = 3 := by rw [HT.out, HD.out, if_neg (by simpa using h5), h6]; rfl
            rw [tabE_types (by omega) (by omega) (by rw [e]; decide), e])
          clear h5
          go_wp2_with (first | (go_at_call 27; refine (t_within _ _ _ _).mono ?_; rintro e w' ⟨rfl, rfl⟩) | (go_at_call 28; refine (u_IsAbbr _ HN _).mono ?_; rintro e w' ⟨rfl, rfl⟩))
          go_ret
          exact ⟨ret_int HE.out.symm, (HK.alloc _).2.2⟩
      · have hd : decide (-75600 ≤ ts[k].1 ∧ ts[k].1 ≤ 75600) = false := by simpa using h5
        have HE := Lib.hid (show tabE ts first cs = 1 by
          have e : typesE ts = 1 := by rw [HT.out, HD.out, if_pos h5]
          rw [tabE_types (by omega) (by omega) (by rw [e]; decide), e])
        clear h5
        go_wp2_with (first | (go_at_call 27; refine (t_within _ _ _ _).mono ?_; rintro e w' ⟨rfl, rfl⟩) | (go_at_call 28; refine (u_IsAbbr _ HN _).mono ?_; rintro e w' ⟨rfl, rfl⟩))
        go_ret
        exact ⟨ret_int HE.out.symm, (HK.alloc _).2.2⟩
    · obtain rfl : k = ts.length := by omega
      have HT0 := Lib.hid (show typesE ts = 0 by rw [HT.out, List.drop_length]; rfl)
      clear HT
      have hcs := HK.1
      have hz := HK.2.1
      by_cases h5 : 0 ≤ first ∧ first ≤ ts.length - 1
      · have hd : decide (0 ≤ first ∧ first ≤ (ts.length : Int) - 1) = true := by simpa using h5
        have HE := Lib.hid (show tabE ts first cs = changesE (ts.length - 1) none cs from tabE_changes (by omega) (by omega) HT0.out h5)
        clear h5
        go_wp2_with (first | (go_at_call 27; refine (t_within _ _ _ _).mono ?_; rintro e w' ⟨rfl, rfl⟩))
        clear hd hcs
        go_loopw [52] (fun i wr => ∃ k : Nat, k ≤ cs.length ∧ i = .int .i64 k ∧ Hid (tabE ts first cs = changesE (ts.length - 1) (prevAt cs k) (cs.drop k)) ∧ TK w wr #[.slice A ts.length capT, .int .i64 first, .slice C cs.length capC]) (fun i _ => cs.length - (intOf i).toNat)
        case atStart => exact ⟨0, Nat.zero_le _, rfl, Lib.hid HE.out, HK⟩
        case round =>
          clear HE HK hz
          obtain ⟨k, hk, rfl, HT, HK⟩ := hrel
          have hcs := HK.1
          have hz := HK.2.1
          by_cases hlt : k < cs.length
          · obtain ⟨b, o, rfl, hb, c0, c1⟩ := ch_at (H.C.below HK.2.2) hlt
            have hb' := Nat.lt_trans hb HK.2.1
            by_cases h5 : -1099511627776 ≤ cs[k].1 ∧ cs[k].1 ≤ 1099511627776 ∧ 0 ≤ cs[k].2 ∧ cs[k].2 ≤ ts.length - 1
            · have hd1 : decide (-1099511627776 ≤ cs[k].1 ∧ cs[k].1 ≤ 1099511627776) = true := by simp; omega
              have hd2 : decide (0 ≤ cs[k].2 ∧ cs[k].2 ≤ (ts.length : Int) - 1) = true := by simp; omega
              by_cases hk0 : k = 0
              · have HE := Lib.hid (show tabE ts first cs = changesE (ts.length - 1) (prevAt cs (k + 1)) (cs.drop (k + 1)) by rw [HT.out]; exact ch_next hlt h5 (fun h0 => by omega))
                subst hk0
                clear h5
                simp only [Nat.zero_mul, Nat.add_zero] at c0 c1
                go_wp2_with (first | (go_at_call 27; refine (t_within _ _ _ _).mono ?_; rintro e w' ⟨rfl, rfl⟩))
                go_quiet (fail)
                go_wp2_with fail
                exact ⟨⟨1, by omega, by go_num, HE, (HK.alloc _).drewN _⟩, by simp [intOf]; omega⟩
              · obtain ⟨b2, o2, e2, _, p0, _⟩ := ch_at (H.C.below HK.2.2) (show k - 1 < cs.length by omega)
                simp only [Option.some.injEq, Addr.mk.injEq, and_true] at e2
                obtain ⟨rfl, rfl⟩ := e2
                have hi1 : (0 : Int) ≤ (k : Int) - 1 := by omega
                have hi2 : (k : Int) - 1 < (cs.length : Int) := by omega
                have hi3 : 0 < k := by omega
                by_cases h6 : cs[k].1 ≤ cs[k - 1].1
                · have HE := Lib.hid (show tabE ts first cs = 5 by rw [HT.out]; exact ch_form hlt (by omega) h5 h6)
                  clear h5
                  go_wp2_with (first | (go_at_call 27; refine (t_within _ _ _ _).mono ?_; rintro e w' ⟨rfl, rfl⟩))
                  go_quiet (fail)
                  go_wp2_with fail
                  go_ret
                  exact ⟨ret_int HE.out.symm, ((HK.alloc _).drewN _).2.2⟩
                · have HE := Lib.hid (show tabE ts first cs = changesE (ts.length - 1) (prevAt cs (k + 1)) (cs.drop (k + 1)) by rw [HT.out]; exact ch_next hlt h5 (fun h0 => h6))
                  clear h5
                  go_wp2_with (first | (go_at_call 27; refine (t_within _ _ _ _).mono ?_; rintro e w' ⟨rfl, rfl⟩))
                  go_quiet (fail)
                  go_wp2_with fail
                  exact ⟨⟨k + 1, by omega, by go_num, HE, (HK.alloc _).drewN _⟩, by simp [intOf]; omega⟩
            · have HE := Lib.hid (show tabE ts first cs = 1 by rw [HT.out]; exact ch_bad hlt h5)
              by_cases h6 : -1099511627776 ≤ cs[k].1 ∧ cs[k].1 ≤ 1099511627776
              · have hd1 : decide (-1099511627776 ≤ cs[k].1 ∧ cs[k].1 ≤ 1099511627776) = true := by simp; omega
                have hd2 : decide (0 ≤ cs[k].2 ∧ cs[k].2 ≤ (ts.length : Int) - 1) = false := by simp; omega
                clear h5 h6
                go_wp2_with (first | (go_at_call 27; refine (t_within _ _ _ _).mono ?_; rintro e w' ⟨rfl, rfl⟩))
                go_ret
                exact ⟨ret_int HE.out.symm, (HK.alloc _).2.2⟩
              · have hd1 : decide (-1099511627776 ≤ cs[k].1 ∧ cs[k].1 ≤ 1099511627776) = false := by simp; omega
                clear h5 h6
                go_wp2_with (first | (go_at_call 27; refine (t_within _ _ _ _).mono ?_; rintro e w' ⟨rfl, rfl⟩))
                go_ret
                exact ⟨ret_int HE.out.symm, (HK.alloc _).2.2⟩
          · obtain rfl : k = cs.length := by omega
            have HE := Lib.hid (show tabE ts first cs = 0 by rw [HT.out, List.drop_length]; rfl)
            go_wp2_with fail
            go_ret
            exact ⟨ret_int HE.out.symm, HK.2.2⟩
      · have hd : decide (0 ≤ first ∧ first ≤ (ts.length : Int) - 1) = false := by simpa using h5
        have HE := Lib.hid (show tabE ts first cs = 1 from tabE_first (by omega) (by omega) HT0.out h5)
        clear h5
        go_wp2_with (first | (go_at_call 27; refine (t_within _ _ _ _).mono ?_; rintro e w' ⟨rfl, rfl⟩))
        go_ret
        exact ⟨ret_int HE.out.symm, HK.2.2⟩
theorem t_Check (A C : Option Addr) (capT capC : Nat) (ts : List Ty) (first : Int) (cs : List Ch) (w : World) (H : TabAt w A C capT capC ts cs) :
    Calls Try.prog 15 #[.agg #[.slice A ts.length capT, .int .i64 first, .slice C cs.length capC]] w fun e w' => e = .returned (.int .i64 (tabE ts first cs)) ∧ Below w.heap.size w w' := by
  by_cases h : (ts.length > 250 ∨ cs.length > 1000) ∨ ts.length = 0
  · exact t_Check_short A C capT capC ts first cs w H h
  · exact t_Check_long A C capT capC ts first cs w H (by omega) (by omega) (by omega)
theorem t_Check_zero (w : World) :
    Calls Try.prog 15 #[.agg #[.slice none 0 0, .int .i64 0, .slice none 0 0]] w fun e w' => e = .returned (.int .i64 5) ∧ Below w.heap.size w w' := t_Check none none 0 0 [] 0 [] w (TabAt.zero w)
end Go.Proofs.Ytbnajjfkkgmflaa
