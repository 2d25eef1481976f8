/- slices.SortStableFunc at the turns' nominals: symMerge, whole. -/
import Derived.Test.YtanaoohgpdcfjaaGreatDoorSkE
import Derived.Deep.CutRange
namespace Go.Proofs.YtanaoohgpdcfjaaGreatDoor
open Go.RowKit Go.Sort
set_option linter.unusedVariables false
theorem smerge_gen (A B : List Nm) (h i : Nat) (hA : NmS A) (hB : NmS B) (hi : i ≤ A.length) (hih : i ≤ h) (hj : h - i ≤ B.length)
    (c1 : i = 0 ∨ h - i = B.length ∨ ∃ u v, A[i - 1]? = some u ∧ B[h - i]? = some v ∧ u.1 ≤ v.1)
    (c2 : i = A.length ∨ h = i ∨ ∃ u v, A[i]? = some u ∧ B[h - i - 1]? = some v ∧ v.1 < u.1) :
    smerge Prod.fst A B = smerge Prod.fst (A.take i) (B.take (h - i)) ++ smerge Prod.fst (A.drop i) (B.drop (h - i)) := by
  have e1 : smerge Prod.fst A B = smerge Prod.fst (A.take i ++ A.drop i) (B.take (h - i) ++ B.drop (h - i)) := by rw [List.take_append_drop, List.take_append_drop]
  rw [e1]
  refine smerge_split Prod.fst _ _ _ _ _ (Nat.le_refl _) ?_ ?_
  · clear c2
    intro x hx y hy
    rcases c1 with rfl | hl | ⟨u, v, hu, hv, huv⟩
    · simp at hx
    · rw [List.drop_eq_nil_of_le (by omega)] at hy; simp at hy
    · obtain ⟨h1, rfl⟩ := List.getElem?_eq_some_iff.1 hu
      obtain ⟨h2, rfl⟩ := List.getElem?_eq_some_iff.1 hv
      by_cases hi0 : i = 0
      · subst hi0; simp at hx
      · have p1 := nms_takele hA h1 (Int.le_refl _) x (by rw [show i - 1 + 1 = i by omega]; exact hx)
        have p2 := nms_drop hB h2 (Int.le_refl _) y hy
        omega
  · clear c1
    intro x hx y hy
    rcases c2 with rfl | hl | ⟨u, v, hu, hv, huv⟩
    · simp at hx
    · subst hl; simp at hy
    · obtain ⟨h1, rfl⟩ := List.getElem?_eq_some_iff.1 hu
      obtain ⟨h2, rfl⟩ := List.getElem?_eq_some_iff.1 hv
      by_cases hi0 : h - i = 0
      · rw [hi0] at hy; simp at hy
      · have p1 := nms_drop hA h1 (Int.le_refl _) x hx
        have p2 := nms_takele hB h2 (Int.le_refl _) y (by rw [show h - i - 1 + 1 = h - i by omega]; exact hy)
        omega
def SymOk (base G cap N n : Nat) : Prop :=
  ∀ (a m b : Nat) (L A B R : List Nm) (w : World), A.length + B.length ≤ n → (L ++ (A ++ (B ++ R))).length = N → L.length = a → a + A.length = m → m + B.length = b → 0 < A.length → 0 < B.length → NmS A → NmS B → NmAt w base G cap (L ++ (A ++ (B ++ R))) →
    Calls Tryz.prog 183 #[.slice (some ⟨G, 0, none⟩) N cap, .int .i64 a, .int .i64 m, .int .i64 b, .func (.func 88) #[] #[]] w
      fun e w' => e = .returned (.tuple #[]) ∧ NmAt w' base G cap (L ++ (smerge Prod.fst A B ++ R)) ∧ w.grownBy w' (some G)
/-- what the search knows of its ends -/
def SrC (A B : List Nm) (a m mid s0 r0 p q : Nat) : Prop :=
  (p = s0 ∨ ∃ u v, A[p - 1 - a]? = some u ∧ B[mid - p]? = some v ∧ u.1 ≤ v.1) ∧ (q = r0 ∨ ∃ u v, A[q - a]? = some u ∧ B[mid - 1 - q]? = some v ∧ v.1 < u.1)
theorem nms_sub {A : List Nm} (h : NmS A) (k : Nat) : NmS (A.take k) ∧ NmS (A.drop k) := ⟨List.Pairwise.sublist (List.take_sublist _ _) h, List.Pairwise.sublist (List.drop_sublist _ _) h⟩
theorem sg_getB (L A B R : List Nm) {j m : Nat} (hm : L.length + A.length = m) (hj : j < B.length) : (L ++ (A ++ (B ++ R)))[m + j]? = some B[j] := by
  rw [← List.append_assoc]; exact sl_get _ _ _ (by simp; omega) hj
set_option maxRecDepth 100000 in
set_option maxHeartbeats 8000000 in
theorem s_sym_gen (base G cap N n a m b : Nat) (IH : SymOk base G cap N n) (L A B R : List Nm) (w : World) (hle : A.length + B.length ≤ n + 1) (hN : (L ++ (A ++ (B ++ R))).length = N) (ha : L.length = a) (hma : a + A.length = m) (hb : m + B.length = b) (hn : N ≤ 100000) (hA1 : 1 < A.length) (hB1 : 1 < B.length) (hsA : NmS A) (hsB : NmS B) (H : NmAt w base G cap (L ++ (A ++ (B ++ R)))) :
    Calls Tryz.prog 183 #[.slice (some ⟨G, 0, none⟩) N cap, .int .i64 a, .int .i64 m, .int .i64 b, .func (.func 88) #[] #[]] w
      fun e w' => e = .returned (.tuple #[]) ∧ NmAt w' base G cap (L ++ (smerge Prod.fst A B ++ R)) ∧ w.grownBy w' (some G) := by
  have hNl : b + R.length = N := by rw [← hN, ← hb, ← hma, ← ha]; simp; omega
  obtain ⟨na, hna⟩ : ∃ n, A.length = n := ⟨_, rfl⟩
  obtain ⟨nb, hnb⟩ : ∃ n, B.length = n := ⟨_, rfl⟩
  rw [hna] at hma hA1 hle
  rw [hnb] at hb hB1 hle
  obtain ⟨mid, hmid⟩ : ∃ k, (a + b) / 2 = k := ⟨_, rfl⟩
  have e0 : ((m : Int) - (a : Int) == 1) = false := by rw [beq_eq_false_iff_ne]; omega
  have e1 : ((b : Int) - (m : Int) == 1) = false := by rw [beq_eq_false_iff_ne]; omega
  have e2 : ((a : Int) + (b : Int)) / 2 = (mid : Int) := by omega
  have cv0 : IntKind.u64.wrap ((a : Int) + (b : Int)) = (a : Int) + (b : Int) := by rw [IntKind.wrap_u64]; omega
  have HIH := Lib.hid IH
  have HSA := Lib.hid hsA
  have HSB := Lib.hid hsB
  have H0 := Lib.hid H
  have hcap := Lib.hid H.caps
  have HNU := Lib.hid (And.intro hna (And.intro hnb (And.intro ha (And.intro hma (And.intro hb (And.intro hNl (And.intro hle (And.intro hA1 (And.intro hB1 hN)))))))))
  have ham : a < m := by omega
  have hmb : m < b := by omega
  have hbN : b ≤ N := by omega
  have hmid1 : a < mid := by omega
  have hmid2 : mid < b := by omega
  have HMM := Lib.hid hmid
  clear IH hsA hsB H hna hnb ha hma hb hN hle hA1 hB1 hNl hmid
  have mixed : Tryz.prog.follows .mixedOrders = true := by kernel_rfl
  go_enter Tryz.func183, Tryz.ntmps183
  go_upto_if 140 with fail
  go_cut [20, 21] from 138 to 146 (fun x y wx => ∃ s0 r0 : Nat, x = .int .i64 s0 ∧ y = .int .i64 r0 ∧ s0 ≤ r0 ∧ a ≤ s0 ∧ r0 ≤ m ∧ r0 ≤ mid ∧ mid + m ≤ b + s0 ∧ Hid (s0 = a ∨ mid + m = b + s0) ∧ Hid (r0 = m ∨ r0 = mid) ∧ wx = w)
  case first =>
    by_cases hgt : mid < m
    · have hg : (mid : Int) < (m : Int) := by omega
      go_wp2_with fail
      go_meet
      exact ⟨mid + m - b, mid, by go_num, rfl, by omega, by have := HMM.out; omega, by omega, Nat.le_refl _, by omega, Lib.hid (Or.inr (by have := HMM.out; omega)), Lib.hid (Or.inr rfl), rfl⟩
    · have hg : ¬ (mid : Int) < (m : Int) := by omega
      go_wp2_with fail
      go_meet
      exact ⟨a, m, rfl, rfl, by omega, Nat.le_refl _, Nat.le_refl _, by omega, by have := HMM.out; omega, Lib.hid (Or.inl rfl), Lib.hid (Or.inl rfl), rfl⟩
  case rest =>
    obtain ⟨s0, r0, rfl, rfl, hsr, has, hrm, hrmid, hsb, HS0, HR0, hwc⟩ := hcut
    have hwc2 := hwc.symm
    clear hwc
    subst hwc2
    obtain ⟨W0, hW0⟩ : ∃ W0 : World, W0 = w := ⟨_, rfl⟩
    have HG0 := Lib.hid (show w.grownBy W0 (some G) by rw [hW0]; exact grown_refl w _)
    rw [← hW0] at H0
    obtain ⟨pz, hpz⟩ : ∃ k, mid + m - 1 = k := ⟨_, rfl⟩
    have e7 : (mid : Int) + (m : Int) - 1 = (pz : Int) := by omega
    have hpzN : pz < 2 * N := by omega
    have HPZ := Lib.hid hpz
    clear hpz
    have HC0 := Lib.hid (show SrC A B a m mid s0 r0 s0 r0 from ⟨Or.inl rfl, Or.inl rfl⟩)
    go_wp2_with fail
    go_loopw [20, 21] (fun i j wr => ∃ p q : Nat, s0 ≤ p ∧ p ≤ q ∧ q ≤ r0 ∧ i = .int .i64 p ∧ j = .int .i64 q ∧ Hid (SrC A B a m mid s0 r0 p q) ∧ Hid (NmAt wr base G cap (L ++ (A ++ (B ++ R)))) ∧ Hid (w.grownBy wr (some G))) (fun i j _ => (intOf j).toNat - (intOf i).toNat)
    case atStart => exact ⟨s0, r0, Nat.le_refl _, hsr, Nat.le_refl _, rfl, rfl, HC0, by rw [← hW0]; exact H0, by rw [hW0] at HG0; exact HG0⟩
    case round =>
      clear H0 HG0 HC0 hW0
      obtain ⟨p, q, hsp, hpq, hqr, rfl, rfl, HK, HW, HG⟩ := hrel
      by_cases hlt : p < q
      · obtain ⟨h, hh⟩ : ∃ h, (p + q) / 2 = h := ⟨_, rfl⟩
        have hp1 : p ≤ h := by omega
        have hq1 : h < q := by omega
        have hAi : h - a < A.length := by have := HNU.out; omega
        have hBi : mid - 1 - h < B.length := by have := HNU.out; omega
        have g1 := sl_get L A (B ++ R) (h := h - a) HNU.out.2.2.1 hAi
        have g2 := sg_getB L A B R (m := m) (by have := HNU.out; omega) hBi
        obtain ⟨z, hz⟩ : ∃ z, mid + m - 1 - h = z := ⟨_, rfl⟩
        rw [show a + (h - a) = h by omega] at g1
        rw [show m + (mid - 1 - h) = z by omega] at g2
        obtain ⟨x, hx⟩ : ∃ x, A[h - a] = x := ⟨_, rfl⟩
        rw [hx] at g1
        obtain ⟨y, hy⟩ : ∃ y, B[mid - 1 - h] = y := ⟨_, rfl⟩
        rw [hy] at g2
        obtain ⟨c10, c11⟩ := HW.out.seen g1
        obtain ⟨c20, c21⟩ := HW.out.seen g2
        have HX := Lib.hid (show A[h - a]? = some x by rw [← hx]; exact List.getElem?_eq_getElem hAi)
        have HY := Lib.hid (show B[mid - 1 - h]? = some y by rw [← hy]; exact List.getElem?_eq_getElem hBi)
        clear g1 g2 hx hy
        have hc2 := hcap.out.2
        unfold maxLen at hc2
        have i1 : (0 : Int) ≤ (h : Int) := by omega
        have i2 : (h : Int) < (N : Int) := by omega
        have i3 : (0 : Int) ≤ (z : Int) := by omega
        have i4 : (z : Int) < (N : Int) := by omega
        have e5 : (pz : Int) - (h : Int) = (z : Int) := by have := HPZ.out; omega
        have hw5 : IntKind.i64.wrap (z : Int) = (z : Int) := IntWalk.i64_in _ (by omega)
        have hw6 : z < N := by omega
        have cv1 : IntKind.u64.wrap ((p : Int) + (q : Int)) = (p : Int) + (q : Int) := by rw [IntKind.wrap_u64]; omega
        have hd : ((p : Int) + (q : Int)) / 2 = (h : Int) := by omega
        have HZZ := Lib.hid (And.intro hz hh)
        clear hz hh
        obtain ⟨xa, xp⟩ := x
        obtain ⟨ya, yp⟩ := y
        simp only at c10 c11 c20 c21
        by_cases hyx : ya < xa
        · have hc : decide (Lib.compareInt ya xa < 0) = true := decide_eq_true (cmpI_lt hyx)
          go_wp2_with fail
          go_quiet_grown (first | (go_at_call 88; exact Calls.grown_of (nm_cmp _ _ _ _ _)))
          clear c10 c11 c20 c21
          have HF := Lib.hid (And.intro (HW.out.grow nq osq) (grown_grow HG.out nq osq))
          generalize Go.Sort.grow (wr.drewN nq) osq = W at HF ⊢
          go_wp2_with fail
          refine ⟨⟨p, h, hsp, by omega, by omega, rfl, by go_num, Lib.hid ⟨HK.out.1, Or.inr ⟨_, _, HX.out, HY.out, hyx⟩⟩, Lib.hid HF.out.1, Lib.hid HF.out.2⟩, by simp only [intOf]; omega⟩
        · have hc : decide (Lib.compareInt ya xa < 0) = false := decide_eq_false (cmpI_ge hyx)
          go_wp2_with fail
          go_quiet_grown (first | (go_at_call 88; exact Calls.grown_of (nm_cmp _ _ _ _ _)))
          clear c10 c11 c20 c21
          have HF := Lib.hid (And.intro (HW.out.grow nq osq) (grown_grow HG.out nq osq))
          generalize Go.Sort.grow (wr.drewN nq) osq = W at HF ⊢
          go_wp2_with fail
          refine ⟨⟨h + 1, q, by omega, by omega, hqr, by go_num, rfl, Lib.hid ⟨Or.inr ⟨(xa, xp), (ya, yp), ?_, ?_, hyx⟩, HK.out.2⟩, Lib.hid HF.out.1, Lib.hid HF.out.2⟩, by simp only [intOf]; omega⟩
          · rw [show h + 1 - 1 - a = h - a by omega]; exact HX.out
          · rw [show mid - (h + 1) = mid - 1 - h by omega]; exact HY.out
      · obtain rfl : p = q := by omega
        -- the two ends met
        obtain ⟨e, he⟩ : ∃ e, mid + m - p = e := ⟨_, rfl⟩
        have HM := Lib.hid (smerge_gen A B (mid - a) (p - a) HSA.out HSB.out (by have := HNU.out; omega) (by omega) (by have := HNU.out; omega)
          (by
            rcases HK.out.1 with h1 | ⟨u, v, h1, h2, h3⟩
            · rcases HS0.out with h4 | h4
              · left; omega
              · right; left; have := HNU.out; omega
            · right; right; exact ⟨u, v, by rw [show p - a - 1 = p - 1 - a by omega]; exact h1, by rw [show mid - a - (p - a) = mid - p by omega]; exact h2, h3⟩)
          (by
            rcases HK.out.2 with h1 | ⟨u, v, h1, h2, h3⟩
            · rcases HR0.out with h4 | h4
              · left; have := HNU.out; omega
              · right; left; omega
            · right; right; exact ⟨u, v, h1, by rw [show mid - a - (p - a) - 1 = mid - 1 - p by omega]; exact h2, h3⟩))
        rw [show mid - a - (p - a) = mid - p by omega] at HM
        obtain ⟨A1, hA1⟩ : ∃ l, A.take (p - a) = l := ⟨_, rfl⟩
        obtain ⟨A2, hA2⟩ : ∃ l, A.drop (p - a) = l := ⟨_, rfl⟩
        obtain ⟨B1, hB1⟩ : ∃ l, B.take (mid - p) = l := ⟨_, rfl⟩
        obtain ⟨B2, hB2⟩ : ∃ l, B.drop (mid - p) = l := ⟨_, rfl⟩
        rw [hA1, hA2, hB1, hB2] at HM
        have hAA : A = A1 ++ A2 := by rw [← hA1, ← hA2, List.take_append_drop]
        have hBB : B = B1 ++ B2 := by rw [← hB1, ← hB2, List.take_append_drop]
        have HLL := Lib.hid (show A1.length = p - a ∧ A2.length = m - p ∧ B1.length = mid - p ∧ B2.length = b - e by
          rw [← hA1, ← hA2, ← hB1, ← hB2, List.length_take, List.length_take, List.length_drop, List.length_drop]
          have := HNU.out
          refine ⟨by omega, by omega, by omega, by omega⟩)
        have HSS := Lib.hid (show NmS A1 ∧ NmS A2 ∧ NmS B1 ∧ NmS B2 from ⟨by rw [← hA1]; exact (nms_sub HSA.out _).1, by rw [← hA2]; exact (nms_sub HSA.out _).2, by rw [← hB1]; exact (nms_sub HSB.out _).1, by rw [← hB2]; exact (nms_sub HSB.out _).2⟩)
        have HWW := Lib.hid (show NmAt wr base G cap (L ++ A1 ++ A2 ++ B1 ++ (B2 ++ R)) by have := HW.out; rw [hAA, hBB] at this; simpa using this)
        have hap : a ≤ p := by omega
        have hpm : p ≤ m := by omega
        have hpmid : p ≤ mid := by omega
        have hae : m ≤ e := by omega
        have heb : e ≤ b := by omega
        have hme : mid ≤ e := by omega
        have HE := Lib.hid he
        have HPE := Lib.hid (show (L ++ A1 ++ A2 ++ B1 ++ (B2 ++ R)).length = N by have := HNU.out; rw [hAA, hBB] at this; simpa using this.2.2.2.2.2.2.2.2.2)
        have e6 : (mid : Int) + (m : Int) - (p : Int) = (e : Int) := by omega
        clear HW HK hA1 hA2 hB1 hB2 hAA hBB he hsp hqr HS0 HR0 hsr hpq
        go_upto_region 39 with fail
        go_cut [185] from 178 to 184 (fun v wx => ∃ g : Bool, v = .bool g ∧ Hid (g = true ↔ (p < m ∧ m < e)) ∧ wx = wr)
        case first =>
          by_cases h1 : p < m
          · have h1' : (p : Int) < (m : Int) := by omega
            by_cases h2 : m < e
            · have h2' : (m : Int) < (e : Int) := by omega
              go_wp2_with fail
              go_meet
              exact ⟨true, rfl, Lib.hid (by simp [h1, h2]), rfl⟩
            · have h2' : ¬ (m : Int) < (e : Int) := by omega
              go_wp2_with fail
              go_meet
              exact ⟨false, rfl, Lib.hid (by simp [h1, h2]), rfl⟩
          · have h1' : ¬ (p : Int) < (m : Int) := by omega
            go_wp2_with fail
            go_meet
            exact ⟨false, rfl, Lib.hid (by simp [h1]), rfl⟩
        case rest =>
          obtain ⟨g, hv, HQ, hwc⟩ := hcut
          subst hv
          have hwc2 := hwc.symm
          clear hwc
          subst hwc2
          go_upto_if 185 with fail
          go_cut [] from 186 to 191 (fun wx => Hid (NmAt wx base G cap (L ++ (A1 ++ (B1 ++ (A2 ++ (B2 ++ R)))))) ∧ Hid (w.grownBy wx (some G)))
          case first =>
            cases g with
            | true =>
              have hq := HQ.out.1 rfl
              have HR := Lib.hid (s_rotate base G cap N p m e (L ++ A1) A2 B1 (B2 ++ R) (.func (.func 88) #[] #[]) wr HPE.out (by have := HNU.out; have := HLL.out; rw [List.length_append]; omega) (by have := HNU.out; have := HLL.out; rw [List.length_append]; omega) (by have := HNU.out; have := HLL.out; have := HE.out; rw [List.length_append]; omega) hn (by have := HLL.out; omega) (by have := HLL.out; have := HE.out; omega) HWW.out)
              go_wp2_with fail
              refine HR.out.mono ?_
              rintro e2 w2 ⟨rfl, h1, h2⟩
              go_wp2_with fail
              go_meet
              exact ⟨Lib.hid (by simpa using h1), Lib.hid (grown_same HG.out h2)⟩
            | false =>
              have hq : ¬ (p < m ∧ m < e) := fun h => by have := HQ.out.2 h; cases this
              go_wp2_with fail
              go_meet
              refine ⟨Lib.hid ?_, HG⟩
              have hl := HLL.out
              have he := HE.out
              have hh := HWW.out
              by_cases h2 : A2.length = 0
              · rw [List.length_eq_zero_iff.1 h2] at hh ⊢; simpa using hh
              · have h3 : B1.length = 0 := by omega
                rw [List.length_eq_zero_iff.1 h3] at hh ⊢; simpa using hh
          case rest =>
            obtain ⟨HW1, HG1⟩ := hcut
            clear HWW HG
            obtain ⟨w1, hw1⟩ : ∃ w1 : World, w1 = wc := ⟨_, rfl⟩
            subst hw1
            go_upto_region 41 with fail
            go_cut [199] from 192 to 198 (fun v wx => ∃ g : Bool, v = .bool g ∧ Hid (g = true ↔ (a < p ∧ p < mid)) ∧ wx = w1)
            case first =>
              by_cases h1 : a < p
              · have h1' : (a : Int) < (p : Int) := by omega
                by_cases h2 : p < mid
                · have h2' : (p : Int) < (mid : Int) := by omega
                  go_wp2_with fail
                  go_meet
                  exact ⟨true, rfl, Lib.hid (by simp [h1, h2]), rfl⟩
                · have h2' : ¬ (p : Int) < (mid : Int) := by omega
                  go_wp2_with fail
                  go_meet
                  exact ⟨false, rfl, Lib.hid (by simp [h1, h2]), rfl⟩
              · have h1' : ¬ (a : Int) < (p : Int) := by omega
                go_wp2_with fail
                go_meet
                exact ⟨false, rfl, Lib.hid (by simp [h1]), rfl⟩
            case rest =>
              obtain ⟨g, hv, HQ, hwc⟩ := hcut
              subst hv
              have hwc2 := hwc.symm
              clear hwc
              subst hwc2
              go_upto_if 199 with fail
              go_cut [] from 200 to 205 (fun wx => Hid (NmAt wx base G cap (L ++ (smerge Prod.fst A1 B1 ++ (A2 ++ (B2 ++ R))))) ∧ Hid (w.grownBy wx (some G)))
              case first =>
                cases g with
                | true =>
                  have hq := HQ.out.1 rfl
                  have HR := Lib.hid (HIH.out a p mid L A1 B1 (A2 ++ (B2 ++ R)) w1 (by have := HNU.out; have := HLL.out; omega) (by have := HPE.out; simp at this ⊢; omega) HNU.out.2.2.1 (by have := HLL.out; omega) (by have := HLL.out; omega) (by have := HLL.out; omega) (by have := HLL.out; omega) HSS.out.1 HSS.out.2.2.1 HW1.out)
                  go_wp2_with fail
                  refine HR.out.mono ?_
                  rintro e2 w2 ⟨rfl, h1, h2⟩
                  go_wp2_with fail
                  go_meet
                  exact ⟨Lib.hid h1, Lib.hid (grown_same HG1.out h2)⟩
                | false =>
                  have hq : ¬ (a < p ∧ p < mid) := fun h => by have := HQ.out.2 h; cases this
                  go_wp2_with fail
                  go_meet
                  refine ⟨Lib.hid ?_, HG1⟩
                  have hl := HLL.out
                  have hh := HW1.out
                  by_cases h2 : A1.length = 0
                  · rw [List.length_eq_zero_iff.1 h2] at hh ⊢; rw [smerge_nil_left]; simpa using hh
                  · have h3 : B1.length = 0 := by omega
                    rw [List.length_eq_zero_iff.1 h3] at hh ⊢; rw [smerge_nil_right]; simpa using hh
              case rest =>
                obtain ⟨HW2, HG2⟩ := hcut
                clear HW1 HG1
                obtain ⟨w2, hw2⟩ : ∃ w2 : World, w2 = wc := ⟨_, rfl⟩
                subst hw2
                obtain ⟨M1, hM1⟩ : ∃ M1, smerge Prod.fst A1 B1 = M1 := ⟨_, rfl⟩
                have HM1 := Lib.hid (show M1.length = mid - a by rw [← hM1, smerge_len Prod.fst _ _ _ (Nat.le_refl _)]; have := HLL.out; omega)
                rw [hM1] at HW2 HM
                clear hM1
                have HW3 := Lib.hid (show NmAt w2 base G cap ((L ++ M1) ++ (A2 ++ (B2 ++ R))) by have := HW2.out; simpa using this)
                clear HW2
                go_upto_region 43 with fail
                go_cut [213] from 206 to 212 (fun v wx => ∃ g : Bool, v = .bool g ∧ Hid (g = true ↔ (mid < e ∧ e < b)) ∧ wx = w2)
                case first =>
                  by_cases h1 : mid < e
                  · have h1' : (mid : Int) < (e : Int) := by omega
                    by_cases h2 : e < b
                    · have h2' : (e : Int) < (b : Int) := by omega
                      go_wp2_with fail
                      go_meet
                      exact ⟨true, rfl, Lib.hid (by simp [h1, h2]), rfl⟩
                    · have h2' : ¬ (e : Int) < (b : Int) := by omega
                      go_wp2_with fail
                      go_meet
                      exact ⟨false, rfl, Lib.hid (by simp [h1, h2]), rfl⟩
                  · have h1' : ¬ (mid : Int) < (e : Int) := by omega
                    go_wp2_with fail
                    go_meet
                    exact ⟨false, rfl, Lib.hid (by simp [h1]), rfl⟩
                case rest =>
                  obtain ⟨g, hv, HQ, hwc⟩ := hcut
                  subst hv
                  have hwc2 := hwc.symm
                  clear hwc
                  subst hwc2
                  cases g with
                  | true =>
                    have hq := HQ.out.1 rfl
                    have HR := Lib.hid (HIH.out mid e b (L ++ M1) A2 B2 R w2 (by have := HNU.out; have := HLL.out; omega) (by have := HPE.out; have := HM1.out; have := HLL.out; simp at *; omega) (by have := HNU.out; have := HM1.out; rw [List.length_append]; omega) (by have := HLL.out; have := HE.out; omega) (by have := HLL.out; omega) (by have := HLL.out; have := HE.out; omega) (by have := HLL.out; omega) HSS.out.2.1 HSS.out.2.2.2 HW3.out)
                    go_wp2_with fail
                    refine HR.out.mono ?_
                    rintro e2 w3 ⟨rfl, h1, h2⟩
                    go_wp2_with fail
                    go_end0
                    refine ⟨rfl, ?_, grown_same HG2.out h2⟩
                    rw [HM.out]
                    simpa using h1
                  | false =>
                    have hq : ¬ (mid < e ∧ e < b) := fun h => by have := HQ.out.2 h; cases this
                    go_wp2_with fail
                    go_end0
                    refine ⟨rfl, ?_, HG2.out⟩
                    have hl := HLL.out
                    have he := HE.out
                    have hh := HW3.out
                    rw [HM.out]
                    by_cases h2 : A2.length = 0
                    · rw [List.length_eq_zero_iff.1 h2] at hh ⊢; rw [smerge_nil_left]; simpa using hh
                    · have h3 : B2.length = 0 := by omega
                      rw [List.length_eq_zero_iff.1 h3] at hh ⊢; rw [smerge_nil_right]; simpa using hh
end Go.Proofs.YtanaoohgpdcfjaaGreatDoor
