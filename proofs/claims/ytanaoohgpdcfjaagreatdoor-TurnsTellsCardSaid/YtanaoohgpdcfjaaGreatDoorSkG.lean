/- slices.SortStableFunc at the turns' nominals: symMerge by induction; insertion. -/
import Derived.Test.YtanaoohgpdcfjaaGreatDoorSkF
namespace Go.Proofs.YtanaoohgpdcfjaaGreatDoor
open Go.RowKit Go.Sort
set_option linter.unusedVariables false
theorem sym_ok (base G cap N : Nat) (hn : N ≤ 100000) : ∀ n, SymOk base G cap N n := by
  intro n
  induction n with
  | zero => intro a m b L A B R w h1 _ _ _ _ hA; omega
  | succ n ih =>
    intro a m b L A B R w hle hN ha hm hb hA hB sA sB H
    by_cases h1 : A.length = 1
    · obtain ⟨x, rfl⟩ := List.length_eq_one_iff.1 h1
      exact s_sym_one base G cap N a m b L B R x w (by simpa using hN) ha (by simpa using hm) (by simp at hm; omega) hn sB (by simpa using H)
    · by_cases h2 : B.length = 1
      · obtain ⟨y, rfl⟩ := List.length_eq_one_iff.1 h2
        exact s_sym_last base G cap N a m b L A R y w (by simpa using hN) ha hm (by simpa using hb) hn h1 sA (by simpa using H)
      · exact s_sym_gen base G cap N n a m b ih L A B R w hle hN ha hm hb hn (by omega) (by omega) sA sB H
theorem ssort_take1 (X : List Nm) : ssort Prod.fst (X.take 1) = X.take 1 := by
  cases X with
  | nil => rfl
  | cons x l => exact ssort_one Prod.fst x
theorem nms_ssort (X : List Nm) : NmS (ssort Prod.fst X) := ssort_sorted Prod.fst _ X rfl
theorem len_ssort (X : List Nm) : (ssort Prod.fst X).length = X.length := ssort_len Prod.fst _ X rfl
set_option maxRecDepth 100000 in
set_option maxHeartbeats 8000000 in
theorem s_insertion (base G cap N a b : Nat) (L X R : List Nm) (w : World) (hN : (L ++ (X ++ R)).length = N) (ha : L.length = a) (hb : a + X.length = b) (hn : N ≤ 100000) (H : NmAt w base G cap (L ++ (X ++ R))) :
    Calls Tryz.prog 182 #[.slice (some ⟨G, 0, none⟩) N cap, .int .i64 a, .int .i64 b, .func (.func 88) #[] #[]] w
      fun e w' => e = .returned (.tuple #[]) ∧ NmAt w' base G cap (L ++ (ssort Prod.fst X ++ R)) ∧ w.grownBy w' (some G) := by
  have hNl : b + R.length = N := by rw [← hN, ← hb, ← ha]; simp; omega
  have HNU := Lib.hid (And.intro ha (And.intro hb hNl))
  have hcap := Lib.hid H.caps
  have hbN : b ≤ N := by omega
  have hab : a ≤ b := by omega
  have H0 := Lib.hid (show NmAt w base G cap (L ++ (ssort Prod.fst (X.take (a + 1 - a)) ++ (X.drop (a + 1 - a) ++ R))) by rw [show a + 1 - a = 1 by omega, ssort_take1, ← List.append_assoc (X.take 1), List.take_append_drop]; exact H)
  clear H ha hb hNl hN
  have mixed : Tryz.prog.follows .mixedOrders = true := by kernel_rfl
  go_enter Tryz.func182, Tryz.ntmps182
  go_wp2_with fail
  go_loopw [8] (fun i wr => ∃ p : Nat, a + 1 ≤ p ∧ (p ≤ b ∨ p = a + 1) ∧ i = .int .i64 p ∧ Hid (NmAt wr base G cap (L ++ (ssort Prod.fst (X.take (p - a)) ++ (X.drop (p - a) ++ R)))) ∧ Hid (w.grownBy wr (some G))) (fun i _ => b - (intOf i).toNat)
  case atStart => exact ⟨a + 1, Nat.le_refl _, Or.inr rfl, by go_num, H0, Lib.hid (grown_refl w _)⟩
  case round =>
    clear H0
    obtain ⟨p, hp, hpb, rfl, HW, HG⟩ := hrel
    by_cases hlt : p < b
    · obtain ⟨k, hk⟩ : ∃ k, p - a = k := ⟨_, rfl⟩
      have hkX : k < X.length := by have := HNU.out; omega
      obtain ⟨x, hx⟩ : ∃ x, X[k] = x := ⟨_, rfl⟩
      have hdr : X.drop k = x :: X.drop (k + 1) := by rw [List.drop_eq_getElem_cons hkX, hx]
      have htk : X.take (k + 1) = X.take k ++ [x] := by rw [List.take_succ_eq_append_getElem hkX, hx]
      obtain ⟨S, hS⟩ : ∃ S, ssort Prod.fst (X.take k) = S := ⟨_, rfl⟩
      obtain ⟨T, hT⟩ : ∃ T, X.drop (k + 1) ++ R = T := ⟨_, rfl⟩
      have HSl := Lib.hid (show S.length = k by rw [← hS, len_ssort, List.length_take]; omega)
      have HSS := Lib.hid (show NmS S by rw [← hS]; exact nms_ssort _)
      rw [hk, hS, hdr] at HW
      have HNX := Lib.hid (show ssort Prod.fst (X.take (k + 1)) = smerge Prod.fst S [x] by rw [htk, ssort_snoc, hS])
      have HW0 := Lib.hid (show NmAt wr base G cap ((L ++ S.take (p - a)) ++ x :: (S.drop (p - a) ++ T)) by
        have := HW.out
        rw [hk, List.take_of_length_le (by rw [HSl.out]; omega), List.drop_eq_nil_of_le (by rw [HSl.out]; omega), ← hT]
        simpa using this)
      have HKK := Lib.hid hk
      have HTT := Lib.hid hT
      clear HW hx hdr htk hS hT hkX hk
      go_wp2_with fail
      go_loopw [9] (fun i wr => ∃ q : Nat, a ≤ q ∧ q ≤ p ∧ i = .int .i64 q ∧ Hid (∀ t ∈ S.drop (q - a), x.1 < t.1) ∧ Hid (NmAt wr base G cap ((L ++ S.take (q - a)) ++ x :: (S.drop (q - a) ++ T))) ∧ Hid (w.grownBy wr (some G))) (fun i _ => (intOf i).toNat)
      case atStart => exact ⟨p, by omega, Nat.le_refl _, rfl, Lib.hid (by rw [List.drop_eq_nil_of_le (by rw [HSl.out]; have := HKK.out; omega)]; simp), HW0, HG⟩
      case round =>
        clear HW0 HG
        obtain ⟨q, haq, hqp, rfl, HD, HW, HG⟩ := hrel
        by_cases hja : a < q
        · have hja' : (a : Int) < (q : Int) := by omega
          obtain ⟨s, rfl⟩ : ∃ s, q = s + 1 := ⟨q - 1, by omega⟩
          obtain ⟨c, hc⟩ : ∃ c, s - a = c := ⟨_, rfl⟩
          rw [show s + 1 - a = c + 1 by omega] at HW HD
          have hcS : c < S.length := by rw [HSl.out]; have := HKK.out; omega
          obtain ⟨y, hy⟩ : ∃ y, S[c] = y := ⟨_, rfl⟩
          have hdr : S.drop c = y :: S.drop (c + 1) := by rw [List.drop_eq_getElem_cons hcS, hy]
          have htk : S.take (c + 1) = S.take c ++ [y] := by rw [List.take_succ_eq_append_getElem hcS, hy]
          have hlen : (L ++ S.take c).length = s := by rw [List.length_append, List.length_take]; have := HNU.out; omega
          have HX := Lib.hid (show NmAt wr base G cap ((L ++ S.take c) ++ y :: x :: (S.drop (c + 1) ++ T)) by have := HW.out; rw [htk] at this; simpa using this)
          have g1 : ((L ++ S.take c) ++ y :: x :: (S.drop (c + 1) ++ T))[s]? = some y := so_get0 _ _ y hlen
          have g2 : ((L ++ S.take c) ++ y :: x :: (S.drop (c + 1) ++ T))[s + 1]? = some x := by
            rw [List.getElem?_append_right (by omega), show s + 1 - (L ++ S.take c).length = 1 by omega]; rfl
          obtain ⟨d10, d11⟩ := HX.out.seen g1
          obtain ⟨d20, d21⟩ := HX.out.seen g2
          have HY := Lib.hid hy
          have hc2 := hcap.out.2
          unfold maxLen at hc2
          have i1 : (0 : Int) ≤ (s : Int) := by omega
          have i2 : (s : Int) < (N : Int) := by omega
          have i3 : (0 : Int) ≤ (s : Int) + 1 := by omega
          have i4 : (s : Int) + 1 < (N : Int) := by omega
          have e5 : (s : Int) + 1 - 1 = (s : Int) := by omega
          have hw5 : IntKind.i64.wrap (s : Int) = (s : Int) := IntWalk.i64_in _ (by omega)
          have hja2 : (a : Int) < (s : Int) + 1 := by omega
          have HG12 := Lib.hid (And.intro g1 g2)
          have HLN := Lib.hid hlen
          have HDT := Lib.hid (And.intro hdr htk)
          have HCC := Lib.hid hc
          clear g1 g2 hlen hdr htk hy hc
          obtain ⟨xa, xp⟩ := x
          obtain ⟨ya, yp⟩ := y
          simp only at d10 d11 d20 d21
          by_cases hyx : xa < ya
          · have hcd : decide (Lib.compareInt xa ya < 0) = true := decide_eq_true (cmpI_lt hyx)
            go_wp2_with fail
            go_quiet_grown (first | (go_at_call 88; exact Calls.grown_of (nm_cmp _ _ _ _ _)))
            clear d10 d11 d20 d21
            have HF := Lib.hid (And.intro (HX.out.grow nq osq) (grown_grow HG.out nq osq))
            generalize Go.Sort.grow (wr.drewN nq) osq = W at HF ⊢
            clear HX HG HW
            obtain ⟨c10, c11⟩ := HF.out.1.cell' HG12.out.1
            obtain ⟨c20, c21⟩ := HF.out.1.cell' HG12.out.2
            have z10 := HF.out.1.frz (s * 2)
            have z11 := HF.out.1.frz (s * 2 + 1)
            have z20 := HF.out.1.frz ((s + 1) * 2)
            have z21 := HF.out.1.frz ((s + 1) * 2 + 1)
            have zl := HF.out.1.lt.2
            have hS0 := HF.out.1.swap (i := s + 1) (j := s) (x := (xa, xp)) (y := (ya, yp)) (by have := (List.getElem?_eq_some_iff.1 HG12.out.2).1; exact this) (by have := (List.getElem?_eq_some_iff.1 HG12.out.1).1; exact this)
            rw [sw2_dn _ _ (ya, yp) (xa, xp) HLN.out.symm] at hS0
            have HS0 := Lib.hid (And.intro hS0 (grown_same HF.out.2 (grown_swap (w := W) (G := G) ((s + 1) * 2) ((s + 1) * 2 + 1) (s * 2) (s * 2 + 1) (.int .i64 ya) (.pointer yp) (.int .i64 xa) (.pointer xp))))
            simp only at c10 c11 c20 c21
            clear hS0 HF
            go_wp2_with fail
            go_region
            clear c10 c11 c20 c21 z10 z11 z20 z21 zl
            obtain ⟨V, hV⟩ : ∃ V, (((W.setCell ⟨G, (s + 1) * 2, none⟩ (.int .i64 ya)).setCell ⟨G, (s + 1) * 2 + 1, none⟩ (.pointer yp)).setCell ⟨G, s * 2, none⟩ (.int .i64 xa)).setCell ⟨G, s * 2 + 1, none⟩ (.pointer xp) = V := ⟨_, rfl⟩
            rw [hV] at HS0 ⊢
            clear hV
            go_wp2_with fail
            refine ⟨⟨s, by omega, by omega, by go_num, Lib.hid ?_, Lib.hid ?_, Lib.hid (grown_drew HS0.out.2)⟩, by simp only [intOf]; omega⟩
            · rw [HCC.out, HDT.out.1]
              intro t ht
              rcases List.mem_cons.1 ht with rfl | ht
              · exact hyx
              · exact HD.out t ht
            · have := HS0.out.1
              rw [HCC.out, HDT.out.1]
              exact World.ownsRow.kept this (grown_drew (grown_refl V none)) (Or.inr (by simp [Value.ownBlock]))
          · have hcd : decide (Lib.compareInt xa ya < 0) = false := decide_eq_false (cmpI_ge hyx)
            go_wp2_with fail
            go_quiet_grown (first | (go_at_call 88; exact Calls.grown_of (nm_cmp _ _ _ _ _)))
            clear d10 d11 d20 d21
            have HF := Lib.hid (And.intro (HW.out.grow nq osq) (grown_grow HG.out nq osq))
            generalize Go.Sort.grow (wr.drewN nq) osq = W at HF ⊢
            go_wp2_with fail
            refine ⟨⟨p + 1, by omega, Or.inl (by omega), by go_num, Lib.hid ?_, Lib.hid HF.out.2⟩, by simp only [intOf]; omega⟩
            have hm := smerge_in Prod.fst (S.take (c + 1)) (S.drop (c + 1)) (xa, xp) (nms_takele HSS.out hcS (by rw [HY.out]; simp only; omega)) HD.out
            rw [List.take_append_drop] at hm
            rw [show p + 1 - a = k + 1 by have := HKK.out; omega, HNX.out, hm, HTT.out]
            simpa using HF.out.1
        · obtain rfl : q = a := by omega
          have hja' : ¬ (q : Int) < (q : Int) := by omega
          go_wp2_with fail
          go_quiet (fail)
          have HF := Lib.hid (And.intro (HW.out.grow nq #[]) (grown_grow HG.out nq #[]))
          rw [grow_empty] at HF
          generalize wr.drewN nq = W at HF ⊢
          go_wp2_with fail
          refine ⟨⟨p + 1, by omega, Or.inl (by omega), by go_num, Lib.hid ?_, Lib.hid HF.out.2⟩, by simp only [intOf]; omega⟩
          have hm := smerge_in Prod.fst [] S x (by simp) (by have := HD.out; rw [Nat.sub_self] at this; exact this)
          rw [List.nil_append, List.nil_append] at hm
          rw [show p + 1 - q = k + 1 by have := HKK.out; omega, HNX.out, hm, HTT.out]
          have := HF.out.1
          rw [Nat.sub_self] at this
          simpa using this
    · go_wp2_with fail
      go_end0
      refine ⟨rfl, ?_, HG.out⟩
      have hh := HW.out
      rw [List.take_of_length_le (by have := HNU.out; omega), List.drop_eq_nil_of_le (by have := HNU.out; omega)] at hh
      simpa using hh
end Go.Proofs.YtanaoohgpdcfjaaGreatDoor
