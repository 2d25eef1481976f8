/- Walks of the reference's eraAt and typeOf. Walk of the reference's typeOf. Walk of the reference's StateAt. -/
import Derived.Test.YtanaoohgpdcfjaaGreatDoorSa
import Derived.Test.YtanaoohgpdcfjaaGreatDoorAbbrT
import Derived.Test.YtanaoohgpdcfjaaGreatDoorTuR
namespace Go.Proofs.YtanaoohgpdcfjaaGreatDoor
open Go.RowKit
set_option linter.unusedVariables false
set_option linter.unusedSimpArgs false
attribute [local go_sem ↓] Go.wp_at_zero Go.wp_at_succ
theorem eraI_at {es : List ErT} (hs : ErSorted es) {t : Int} {k : Nat} (hk : k < es.length - 1) (h1 : ∀ j (hj : j < es.length), j < k → es[j].until_ ≤ t) (h2 : t < (es[k]'(by omega)).until_) : eraI es t = k := by
  obtain ⟨a, b, c⟩ := eraI_spec hs t
  rcases Nat.lt_trichotomy (eraI es t) k with h | h | h
  · have h3 := c (eraI es t) (by omega) (Nat.le_refl _)
    have h4 := h1 (eraI es t) (by omega) h
    omega
  · exact h
  · have := b k (by omega) h; omega
theorem eraI_end {es : List ErT} (hs : ErSorted es) {t : Int} (h1 : ∀ j (hj : j < es.length), j < es.length - 1 → es[j].until_ ≤ t) : eraI es t = es.length - 1 := by
  obtain ⟨a, b, c⟩ := eraI_spec hs t
  by_cases h : eraI es t < es.length - 1
  · have h3 := c (eraI es t) h (Nat.le_refl _)
    have h4 := h1 (eraI es t) (by omega) h
    omega
  · omega
set_option maxRecDepth 100000 in
set_option maxHeartbeats 4000000 in
theorem r_eraAt (nz : ByteArray) (A : Option Addr) (c : Nat) (es : List ErT) (t : Int) (w : World) (hA : SlAt w w.heap.size 5 A (es.map erC)) (hc : es.length ≤ c) (hm : c ≤ maxLen) (h0 : 0 < es.length) (hs : ErSorted es) :
    Calls Tryz.prog 45 #[.agg #[.string nz, .slice A es.length c], .int .i64 t] w fun e w' => e = .returned (.int .i64 (eraI es t : Nat)) ∧ Below w.heap.size w w' := by
  unfold maxLen at hm
  have hb1 := (Below.refl w.heap.size w).alloc (Nat.le_refl _) (.cells #[.string nz, .slice A es.length c] 74)
  have k1 := Blk.new w #[.string nz, .slice A es.length c] 74
  have HAt := Lib.hid (fun (k : Nat) (hk : k < es.length - 1) => eraI_at (t := t) hs hk)
  have HEnd := Lib.hid (eraI_end (t := t) hs)
  obtain ⟨b0, o0, hA0⟩ : ∃ b o, A = some ⟨b, o, none⟩ := by obtain ⟨b, o, h, _⟩ := hA (by simpa using h0); exact ⟨b, o, h⟩
  subst hA0
  obtain ⟨n, hn⟩ : ∃ n, es.length = n + 1 := ⟨es.length - 1, by omega⟩
  have HN := Lib.hid hn
  rw [hn] at k1 hb1 hc ⊢
  have HB := Lib.hid hb1
  have HK := Lib.hid k1
  have HA := Lib.hid hA
  have hw1 : IntKind.i64.wrap ((n : Int) + 1 - 1) = (n : Int) := by rw [show (n : Int) + 1 - 1 = n by omega]; exact IntWalk.i64_in _ (by omega)
  have hw2 : (n : Int) + 1 - 1 = (n : Int) := by omega
  have hi1 : (0 : Int) ≤ (n : Int) := by omega
  have hi2 : (n : Int) ≤ (c : Int) := by omega
  have hi3 : (0 : Int) ≤ (c : Int) := by omega
  clear hb1 k1 hs h0 hn hA
  have kr := HK.out.cell
  have kl := HK.out.lt
  go_enter Tryz.func45, Tryz.ntmps45
  go_wp2_with fail
  clear kr kl
  go_loopw [15] (fun i wr => ∃ k : Nat, k ≤ n ∧ i = .int .i64 k ∧ Hid (∀ j (hj : j < es.length), j < k → es[j].until_ ≤ t) ∧ Hid (Blk wr w.heap.size 74 #[.string nz, .slice (some ⟨b0, o0, none⟩) (n + 1) c]) ∧ Hid (Below w.heap.size w wr)) (fun i _ => n - (intOf i).toNat)
  case atStart => exact ⟨0, Nat.zero_le _, rfl, Lib.hid (fun j hj h => absurd h (by omega)), HK, HB⟩
  case round =>
    clear HK HB
    obtain ⟨k, hk, rfl, HD, HK, HB⟩ := hrel
    by_cases hlt : k < n
    · have hke : k < es.length := by rw [HN.out]; omega
      obtain ⟨b, o, e, hb, c0, c1, c2, c3, c4⟩ := er_at (HA.out.below HB.out) hke
      simp only [Option.some.injEq, Addr.mk.injEq, and_true] at e
      obtain ⟨rfl, rfl⟩ := e
      have hz := HB.out.size
      have hbw : b0 < wr.heap.size := by omega
      have hi5 : (0 : Int) ≤ (k : Int) := by omega
      have hi6 : (k : Int) < (n : Int) := by omega
      have HE := Lib.hid (fun (h : t < es[k].until_) => HAt.out k (by rw [HN.out]; omega) HD.out h)
      have HG := Lib.hid (fun (h : es[k].until_ ≤ t) j (hj : j < es.length) (h2 : j < k + 1) => (if h3 : j < k then HD.out j hj h3 else (by obtain rfl : j = k := (by omega); exact h) : es[j].until_ ≤ t))
      obtain ⟨x, hx⟩ : ∃ x, es[k] = x := ⟨_, rfl⟩
      rw [hx] at c0 c1 c2 c3 c4 HE HG
      clear hx HD
      have hV := (Below.refl wr.heap.size wr).alloc (Nat.le_refl _) (.cells #[.int .i64 x.off, .string x.rules, .int .i64 x.save, .string x.format, .int .i64 x.until_] 93)
      replace HK := Lib.hid (HK.out.step hV)
      replace HB := Lib.hid (HB.out.trans (hV.mono hz))
      clear hV
      by_cases hq : t < x.until_
      · have HE2 := Lib.hid (HE.out hq)
        clear HE HG
        go_wp2_with fail
        go_ret
        exact ⟨ret_int (by rw [HE2.out]), HB.out⟩
      · have HG2 := Lib.hid (HG.out (by omega))
        clear HE HG
        go_wp2_with fail
        exact ⟨⟨k + 1, by omega, by go_num, HG2, HK, HB⟩, by simp only [intOf]; omega⟩
    · obtain rfl : k = n := by omega
      have HE := Lib.hid (HEnd.out (fun j hj h => HD.out j hj (by rw [HN.out] at h; omega)))
      have kr := HK.out.cell
      have kl := HK.out.lt
      clear HD
      go_wp2_with fail
      go_ret
      exact ⟨ret_int (by rw [HE.out, HN.out]; simp), HB.out⟩
theorem fstL_cons (u : TuT) (l : List TuT) : fstL (u :: l) = if zS u = true then u.2.2 else fstL l := by
  cases h : zS u with
  | true => rw [if_pos rfl]; exact fstL_at (l := u :: l) (k := 0) (by simp) (fun j hj hlt => absurd hlt (by omega)) h
  | false =>
    rw [if_neg (by simp)]
    rcases fstL_ix l with ⟨e1, e2⟩ | ⟨k, hk, e1, e2⟩
    · rw [e2]
      refine fstL_none (fun j hj => ?_)
      cases j with
      | zero => exact h
      | succ j =>
        have hj' : j < l.length := by simpa using hj
        cases hz : zS l[j] with
        | false => simpa using hz
        | true =>
          exfalso
          have h1 := any_idx (p := zS) l 0
          rw [e1] at h1
          have h2 : l.any zS = true := List.any_eq_true.2 ⟨l[j], List.getElem_mem hj', hz⟩
          rw [h2] at h1
          simp at h1
    · rw [e2]
      have hn : ∀ j (hj : j < l.length), j < k → zS l[j] = false := by
        intro j hj hjk
        have ind : ∀ (l : List TuT) (b : Nat) (k : Nat), idxOfF zS l b = ((b + k : Nat) : Int) → ∀ j (hj : j < l.length), j < k → zS l[j] = false := by
          intro l
          induction l with
          | nil => intro b k _ j hj; simp at hj
          | cons v l ih =>
            intro b k h1 j hj hjk
            cases hv : zS v with
            | true => rw [idxOfF, if_pos hv] at h1; omega
            | false =>
              rw [idxOfF, if_neg (by rw [hv]; exact Bool.false_ne_true)] at h1
              cases j with
              | zero => exact hv
              | succ j =>
                have := ih (b + 1) (k - 1) (by rw [h1]; congr 1; omega) j (by simpa using hj) (by omega)
                simpa using this
        exact ind l 0 k (by rw [e1, Nat.zero_add]) j hj hjk
      have hz : zS l[k] = true := by
        have ind : ∀ (l : List TuT) (b : Nat) (k : Nat) (hk : k < l.length), idxOfF zS l b = ((b + k : Nat) : Int) → zS l[k] = true := by
          intro l
          induction l with
          | nil => intro b k hk; simp at hk
          | cons v l ih =>
            intro b k hk h1
            cases hv : zS v with
            | true =>
              rw [idxOfF, if_pos hv] at h1
              obtain rfl : k = 0 := by omega
              exact hv
            | false =>
              rw [idxOfF, if_neg (by rw [hv]; exact Bool.false_ne_true)] at h1
              have hge : 0 ≤ idxOfF zS l (b + 1) := by omega
              have hb : ∀ (l : List TuT) (b : Nat), 0 ≤ idxOfF zS l b → (b : Int) ≤ idxOfF zS l b := by
                intro l
                induction l with
                | nil => intro b h; simp [idxOfF] at h
                | cons v l ih =>
                  intro b h
                  rw [idxOfF] at h ⊢
                  split
                  · omega
                  · rename_i hv; rw [if_neg hv] at h; have := ih (b + 1) h; omega
              have := hb l (b + 1) hge
              cases k with
              | zero => omega
              | succ k =>
                have := ih (b + 1) k (by simpa using hk) (by rw [h1]; congr 1; omega)
                simpa using this
        exact ind l 0 k hk (by rw [e1, Nat.zero_add])
      exact fstL_at (l := u :: l) (k := k + 1) (by simpa using hk) (fun j hj hlt => by
        cases j with
        | zero => exact h
        | succ j => exact hn j (by simpa using hj) (by omega)) hz
/-- the type so far, at k turns -/
def stK (x : ErT) (l : List TuT) (t : Int) (k : Nat) : Int × ByteArray := if min k (tuCount l t) = 0 then (x.save, fstL l) else (l.getD (min k (tuCount l t) - 1) default).2
theorem stK_zero (x : ErT) (l : List TuT) (t : Int) : stK x l t 0 = (x.save, fstL l) := by simp [stK]
theorem stK_all {x : ErT} {l : List TuT} {t : Int} (hs : TuSorted l) : stK x l t l.length = stS x l t := by
  have := (tuCount_spec hs t).1
  unfold stK stS
  rw [Nat.min_eq_right this]
theorem stK_yes {x : ErT} {l : List TuT} {t : Int} (hs : TuSorted l) {k : Nat} (hk : k < l.length) (h : l[k].1 ≤ t) : stK x l t (k + 1) = l[k].2 := by
  obtain ⟨a, b, c⟩ := tuCount_spec hs t
  have hlt : k < tuCount l t := by
    by_cases h1 : k < tuCount l t
    · exact h1
    · have := c k hk (by omega); omega
  unfold stK
  rw [Nat.min_eq_left (by omega), if_neg (by omega), Nat.add_sub_cancel]
  simp [List.getD, hk]
theorem stK_no {x : ErT} {l : List TuT} {t : Int} (hs : TuSorted l) {k : Nat} (hk : k < l.length) (h : ¬ l[k].1 ≤ t) : stK x l t (k + 1) = stK x l t k := by
  obtain ⟨a, b, c⟩ := tuCount_spec hs t
  have hle : tuCount l t ≤ k := by
    by_cases h1 : k < tuCount l t
    · have := b k hk h1; omega
    · omega
  unfold stK
  rw [Nat.min_eq_right (by omega), Nat.min_eq_right hle]
end Go.Proofs.YtanaoohgpdcfjaaGreatDoor
namespace Go.Proofs.YtanaoohgpdcfjaaGreatDoor
open Go.RowKit
set_option linter.unusedVariables false
set_option linter.unusedSimpArgs false
attribute [local go_sem ↓] Go.wp_at_zero Go.wp_at_succ
set_option maxRecDepth 100000 in
set_option maxHeartbeats 8000000 in
theorem r_typeOf (x : ErT) (A : Option Addr) (cap : Nat) (l : List TuT) (t : Int) (w : World) (hA : SlAt w w.heap.size 3 A (l.map tuCells)) (hc : l.length ≤ cap) (hm : cap ≤ maxLen) (hs : TuSorted l) (hn : l.length ≤ 1500) (ho : TuOk l) (hx : 0 ≤ x.save ∧ x.save ≤ 10800) (hx2 : -100000 ≤ x.off ∧ x.off ≤ 100000) (hf : x.format.size ≤ maxLen) (hnil : sEq x.rules eMT = true → l = []) :
    Calls Tryz.prog 46 #[.agg #[.int .i64 x.off, .string x.rules, .int .i64 x.save, .string x.format, .int .i64 x.until_], .slice A l.length cap, .int .i64 t] w fun e w' => e = .returned (.agg #[.int .i64 (typeV x l t).1, .bool (typeV x l t).2.1, .string (typeV x l t).2.2]) ∧ Below w.heap.size w w' := by
  unfold maxLen at hm
  have hb1 := (Below.refl w.heap.size w).alloc (Nat.le_refl _) (.cells #[.int .i64 x.off, .string x.rules, .int .i64 x.save, .string x.format, .int .i64 x.until_] 93)
  have hb2 := hb1.alloc (by rw [size_alloc]; omega) (.cells #[.int .i64 0, .bool false, .string ⟨#[]⟩] 37)
  have k1 := (Blk.new w #[.int .i64 x.off, .string x.rules, .int .i64 x.save, .string x.format, .int .i64 x.until_] 93).alloc (.cells #[.int .i64 0, .bool false, .string ⟨#[]⟩] 37)
  have k2 := Blk.new (w.alloc (.cells #[.int .i64 x.off, .string x.rules, .int .i64 x.save, .string x.format, .int .i64 x.until_] 93)) #[.int .i64 0, .bool false, .string ⟨#[]⟩] 37
  rw [size_alloc] at k2
  have hst := stS_ok (x := x) t hs ho hx
  obtain ⟨W, hW⟩ : ∃ W, (w.alloc (.cells #[.int .i64 x.off, .string x.rules, .int .i64 x.save, .string x.format, .int .i64 x.until_] 93)).alloc (.cells #[.int .i64 0, .bool false, .string ⟨#[]⟩] 37) = W := ⟨_, rfl⟩
  rw [hW] at hb2 k1 k2
  have HA := Lib.hid (fun (V : World) (hb : Below w.heap.size w V) => hA.below hb)
  have HB := Lib.hid hb2
  have HK := Lib.hid k1
  have HT := Lib.hid k2
  have HS := Lib.hid hst
  have HZ := Lib.hid (show stK x l t 0 = (x.save, fstL l) from stK_zero x l t)
  have HAl := Lib.hid (show stK x l t l.length = stS x l t from stK_all hs)
  have HY := Lib.hid (fun (k : Nat) (hk : k < l.length) => stK_yes (x := x) (t := t) hs hk)
  have HNo := Lib.hid (fun (k : Nat) (hk : k < l.length) => stK_no (x := x) (t := t) hs hk)
  have HTV := Lib.hid (show typeV x l t = (x.off + (stS x l t).1, decide (0 < (stS x l t).1), abV x.format (stS x l t).1 (stS x l t).2) from rfl)
  have HNil := Lib.hid hnil
  have HAB := Lib.hid (fun (s : Int) (L : ByteArray) (hl : L.size ≤ maxLen) (V : World) => r_Abbr x.format L s hf hl V)
  have hm2 := mt_em x.rules
  obtain ⟨p, hp⟩ : ∃ p, stS x l t = p := ⟨_, rfl⟩
  obtain ⟨ty, hty⟩ : ∃ ty, typeV x l t = ty := ⟨_, rfl⟩
  rw [hp] at HS HAl HTV
  rw [hty] at HTV ⊢
  obtain ⟨B, hBe⟩ : ∃ B, w.heap.size = B := ⟨_, rfl⟩
  have HBe := Lib.hid hBe
  rw [hBe] at HK HT
  clear hb1 hb2 k1 k2 hst hA hs ho hx hf hnil hp hty
  have kr := HK.out.cell
  have kl := HK.out.lt
  go_enter Tryz.func46, Tryz.ntmps46
  go_upto_if 18 with fail
  clear hW hBe kr kl
  go_cut [7, 8] from 14 (fun v7 v8 wx => v7 = .int .i64 p.1 ∧ v8 = .string p.2 ∧ Hid (Blk wx B 93 #[.int .i64 x.off, .string x.rules, .int .i64 x.save, .string x.format, .int .i64 x.until_]) ∧ Hid (Blk wx (B + 1) 37 #[.int .i64 0, .bool false, .string ⟨#[]⟩]) ∧ Hid (Below w.heap.size w wx))
  case first =>
    cases hE : sEq x.rules eMT with
    | true =>
      have hl0 := HNil.out hE
      subst hl0
      have e := HAl.out
      rw [show ([] : List TuT).length = 0 from rfl, HZ.out, fstL_nil] at e
      rw [hE] at hm2
      simp only [hm2, Bool.not_true]
      subst e
      clear hE hm2
      go_wp2_with fail
      go_meet
      exact ⟨rfl, rfl, HK, HT, HB⟩
    | false =>
      rw [hE] at hm2
      simp only [hm2, Bool.not_false]
      clear hE hm2 HNil
      go_wp2_with fail
      go_loopw [8, 9] (fun L i wr => ∃ k : Nat, k ≤ l.length ∧ i = .int .i64 ((k : Int) - 1) ∧ L = .string (fstL (l.drop k)) ∧ wr = W) (fun _ i _ => (intOf i + 1).toNat)
      case atStart => exact ⟨l.length, Nat.le_refl _, by go_num, by rw [List.drop_length]; rfl, rfl⟩
      case round =>
        obtain ⟨k, hk, rfl, rfl, rfl⟩ := hrel
        by_cases h0 : k = 0
        · subst h0
          rw [List.drop_zero]
          obtain ⟨f, hf⟩ : ∃ f, fstL l = f := ⟨_, rfl⟩
          rw [hf] at HZ ⊢
          clear hf
          go_wp2_with fail
          go_loopw [7, 8, 39] (fun v7 v8 i wr => ∃ (k : Nat) (q : Int × ByteArray), k ≤ l.length ∧ i = .int .i64 k ∧ v7 = .int .i64 q.1 ∧ v8 = .string q.2 ∧ Hid (stK x l t k = q) ∧ Hid (Blk wr B 93 #[.int .i64 x.off, .string x.rules, .int .i64 x.save, .string x.format, .int .i64 x.until_]) ∧ Hid (Blk wr (B + 1) 37 #[.int .i64 0, .bool false, .string ⟨#[]⟩]) ∧ Hid (Below w.heap.size w wr)) (fun _ _ i _ => l.length - (intOf i).toNat)
          case atStart => exact ⟨0, (x.save, f), Nat.zero_le _, rfl, rfl, rfl, HZ, HK, HT, HB⟩
          case round =>
            clear HK HT HB
            obtain ⟨k, ⟨sv, lt⟩, hk, rfl, rfl, rfl, HQ, HK, HT, HB⟩ := hrel
            by_cases hlt : k < l.length
            · obtain ⟨b, o, rfl, hb, c0, c1, c2⟩ := tu_at (HA.out _ HB.out) hlt
              have hz := HB.out.size
              have hbw : b < wr.heap.size := by omega
              have hi1 : (0 : Int) ≤ (k : Int) := by omega
              have hi2 : (k : Int) < (l.length : Int) := by omega
              have HYk := Lib.hid (HY.out k hlt)
              have HNk := Lib.hid (HNo.out k hlt)
              obtain ⟨u, hu⟩ : ∃ u, l[k] = u := ⟨_, rfl⟩
              rw [hu] at c0 c1 c2 HYk HNk
              clear hu
              have hV := (Below.refl wr.heap.size wr).alloc (Nat.le_refl _) (.cells #[.int .i64 u.1, .int .i64 u.2.1, .string u.2.2] 34)
              have HX := Lib.hid (Blk.new wr #[.int .i64 u.1, .int .i64 u.2.1, .string u.2.2] 34)
              replace HK := Lib.hid (HK.out.step hV)
              replace HT := Lib.hid (HT.out.step hV)
              replace HB := Lib.hid (HB.out.trans (hV.mono hz))
              clear hV
              by_cases hq : u.1 ≤ t
              · have HQ2 := Lib.hid (HYk.out hq)
                clear HYk HNk HQ
                go_wp2_with fail
                obtain ⟨V, hV⟩ : ∃ V, wr.alloc (.cells #[.int .i64 u.1, .int .i64 u.2.1, .string u.2.2] 34) = V := ⟨_, rfl⟩
                obtain ⟨g, hg⟩ : ∃ g, wr.heap.size = g := ⟨_, rfl⟩
                rw [hV] at HK HT HB HX ⊢
                rw [hg] at HX ⊢
                clear hV hg c0 c1 c2
                have xc := HX.out.cell
                have xl := HX.out.lt
                go_quiet (fail)
                rename_i nq
                have hVq := below_drewN (Below.refl V.heap.size V) nq
                replace HK := Lib.hid (HK.out.step hVq)
                replace HT := Lib.hid (HT.out.step hVq)
                replace HB := Lib.hid (HB.out.trans (hVq.mono HB.out.size))
                clear hVq xc xl HX
                try go_wp2_with fail
                exact ⟨⟨k + 1, u.2, by omega, by go_num, rfl, rfl, HQ2, HK, HT, HB⟩, by simp only [intOf]; omega⟩
              · have HQ2 := Lib.hid ((HNk.out (by omega)).trans HQ.out)
                clear HYk HNk HQ HX
                go_wp2_with fail
                exact ⟨⟨k + 1, (sv, lt), by omega, by go_num, rfl, rfl, HQ2, HK, HT, HB⟩, by simp only [intOf]; omega⟩
            · obtain rfl : k = l.length := by omega
              have e := HAl.out
              rw [HQ.out] at e
              subst e
              go_wp2_with fail
              go_meet
              exact ⟨rfl, rfl, HK, HT, HB⟩
        · obtain ⟨j, rfl⟩ : ∃ j, k = j + 1 := ⟨k - 1, by omega⟩
          have hj : j < l.length := by omega
          obtain ⟨b, o, rfl, hb, c0, c1, c2⟩ := tu_at (HA.out _ HB.out) hj
          have hi1 : (0 : Int) ≤ (j : Int) := by omega
          have hi2 : (j : Int) < (l.length : Int) := by omega
          have e1 : ((j + 1 : Nat) : Int) - 1 = (j : Int) := by omega
          have e2 : (j : Int) + 1 - 1 = (j : Int) := by omega
          have hwj : IntKind.i64.wrap ((j : Int) - 1) = (j : Int) - 1 := IntWalk.i64_in _ (by omega)
          have HD := Lib.hid (show fstL (l.drop j) = if zS l[j] = true then l[j].2.2 else fstL (l.drop (j + 1)) by rw [List.drop_eq_getElem_cons hj, fstL_cons])
          obtain ⟨u, hu⟩ : ∃ u, l[j] = u := ⟨_, rfl⟩
          rw [hu] at c0 c1 c2 HD
          obtain ⟨f, hf⟩ : ∃ f, fstL (l.drop (j + 1)) = f := ⟨_, rfl⟩
          rw [hf] at HD ⊢
          clear hu hf h0 e2
          rw [e1]
          clear e1
          have hzs : zS u = (u.2.1 == 0) := rfl
          cases hq : zS u with
          | true =>
            rw [hq] at hzs
            have hzs' := hzs.symm
            have HD2 := Lib.hid (show u.2.2 = fstL (l.drop j) by rw [HD.out, if_pos hq])
            clear HD hzs hq
            go_wp2_with fail
            exact ⟨⟨j, by omega, by go_num, by rw [HD2.out], by first | rfl | trivial⟩, by simp only [intOf]; omega⟩
          | false =>
            rw [hq] at hzs
            have hzs' := hzs.symm
            have HD2 := Lib.hid (show f = fstL (l.drop j) by rw [HD.out, if_neg (by rw [hq]; exact Bool.false_ne_true)])
            clear HD hzs hq
            go_wp2_with fail
            exact ⟨⟨j, by omega, by go_num, by rw [HD2.out], by first | rfl | trivial⟩, by simp only [intOf]; omega⟩
  case rest =>
    obtain ⟨sv, lt⟩ := p
    clear HK HT HB HZ HAl HY HNo HNil hm2
    obtain ⟨rfl, rfl, HK, HT, HB⟩ := hcut
    obtain ⟨⟨hsv0, hsv1⟩, hlt⟩ := HS.out
    simp only at hsv0 hsv1 hlt
    have HC := Lib.hid (HAB.out sv lt hlt)
    clear hlt HAB
    have kr := HK.out.cell
    have kl := HK.out.lt
    go_wp2_with fail
    refine (HC.out wc).mono ?_
    rintro e w3 ⟨rfl, hb3⟩
    replace HK := Lib.hid (HK.out.step hb3)
    replace HT := Lib.hid (HT.out.step hb3)
    replace HB := Lib.hid (HB.out.trans (hb3.mono HB.out.size))
    clear hb3 kr kl HC
    have kr := HK.out.cell
    have kl := HK.out.lt
    have tr := HT.out.frz
    have tl := HT.out.lt
    have tc := HT.out.cell
    obtain ⟨ab, hab⟩ : ∃ ab, abV x.format sv lt = ab := ⟨_, rfl⟩
    rw [hab] at HTV ⊢
    clear hab
    have hw1 : IntKind.i64.wrap (x.off + sv) = x.off + sv := IntWalk.i64_in _ (by omega)
    go_wp2_with fail
    have HF := Lib.hid (blk3 HT.out (x := .int .i64 (x.off + sv)) (y := .bool (decide (0 < sv))) (z := .string ab))
    have HBF := Lib.hid (show Below w.heap.size w (((w3.setCell ⟨B + 1, 0, none⟩ (.int .i64 (x.off + sv))).setCell ⟨B + 1, 1, none⟩ (.bool (decide (0 < sv)))).setCell ⟨B + 1, 2, none⟩ (.string ab)) from below3 HB.out (by have := HBe.out; omega))
    obtain ⟨U, hU⟩ : ∃ U, (((w3.setCell ⟨B + 1, 0, none⟩ (.int .i64 (x.off + sv))).setCell ⟨B + 1, 1, none⟩ (.bool (decide (0 < sv)))).setCell ⟨B + 1, 2, none⟩ (.string ab)) = U := ⟨_, rfl⟩
    rw [hU] at HF HBF ⊢
    have hf := HF.out.cell
    exact bodyPost_ret (v := .agg #[.int .i64 (x.off + sv), .bool (decide (0 < sv)), .string ab]) (by simp [results, Tryz.results46, go_sem, hf]) rfl ⟨by rw [HTV.out], HBF.out⟩
end Go.Proofs.YtanaoohgpdcfjaaGreatDoor
namespace Go.Proofs.YtanaoohgpdcfjaaGreatDoor
open Go.RowKit
set_option linter.unusedVariables false
set_option linter.unusedSimpArgs false
attribute [local go_sem ↓] Go.wp_at_zero Go.wp_at_succ
theorem far5 {w : World} {g : Nat} {x y z u v : Value} {a : Addr} (h : g ≠ a.block) : (((((w.setCell ⟨g, 0, none⟩ x).setCell ⟨g, 1, none⟩ y).setCell ⟨g, 2, none⟩ z).setCell ⟨g, 3, none⟩ u).setCell ⟨g, 4, none⟩ v).cell? a = w.cell? a := by
  have n : ∀ i, (⟨g, i, none⟩ : Addr) ≠ a := fun i e => h (by rw [← e])
  rw [World.cell?_setCell_other _ _ _ _ (n 4), World.cell?_setCell_other _ _ _ _ (n 3), World.cell?_setCell_other _ _ _ _ (n 2), World.cell?_setCell_other _ _ _ _ (n 1), World.cell?_setCell_other _ _ _ _ (n 0)]
theorem blk5 {W : World} {b : Nat} {t : TypeId} {u0 u1 u2 u3 u4 x y z u v : Value} (h : Blk W b t #[u0, u1, u2, u3, u4]) : Blk (((((W.setCell ⟨b, 0, none⟩ x).setCell ⟨b, 1, none⟩ y).setCell ⟨b, 2, none⟩ z).setCell ⟨b, 3, none⟩ u).setCell ⟨b, 4, none⟩ v) b t #[x, y, z, u, v] := ((((h.set 0 x).set 1 y).set 2 z).set 3 u).set 4 v
theorem blkfar5 {W : World} {b g : Nat} {t : TypeId} {cs : Array Value} {x y z u v : Value} (h : Blk W b t cs) (hne : b ≠ g) : Blk (((((W.setCell ⟨g, 0, none⟩ x).setCell ⟨g, 1, none⟩ y).setCell ⟨g, 2, none⟩ z).setCell ⟨g, 3, none⟩ u).setCell ⟨g, 4, none⟩ v) b t cs :=
  ((((h.far (a := ⟨g, 0, none⟩) hne x).far (a := ⟨g, 1, none⟩) hne y).far (a := ⟨g, 2, none⟩) hne z).far (a := ⟨g, 3, none⟩) hne u).far (a := ⟨g, 4, none⟩) hne v
theorem below5 {w W : World} {b3 : Nat} {x y z u v : Value} (h : Below w.heap.size w W) (hb : w.heap.size ≤ b3) : Below w.heap.size w (((((W.setCell ⟨b3, 0, none⟩ x).setCell ⟨b3, 1, none⟩ y).setCell ⟨b3, 2, none⟩ z).setCell ⟨b3, 3, none⟩ u).setCell ⟨b3, 4, none⟩ v) :=
  Below.setCell (Below.setCell (Below.setCell (Below.setCell (Below.setCell h (p := ⟨b3, 0, none⟩) hb x) (p := ⟨b3, 1, none⟩) hb y) (p := ⟨b3, 2, none⟩) hb z) (p := ⟨b3, 3, none⟩) hb u) (p := ⟨b3, 4, none⟩) hb v
theorem isTime_st (t : Int) : isTimeB t = decide (stE t = 0) := by
  have h : isTimeB t = dateOk (t / 86400) := by
    unfold isTimeB dateOk
    rw [Bool.eq_iff_iff]
    simp
    omega
  rw [h, stE]
  cases dateOk (t / 86400) <;> simp
theorem keep5s {W : World} {g b q : Nat} {c : Array Value} {a1 a2 a3 a4 a5 : Nat} {v1 v2 v3 v4 v5 x y z u v : Value} (h : (∀ i, W.cell? ⟨g, i, none⟩ = c[i]?) ∧ W.cell? ⟨b, a1, none⟩ = some v1 ∧ W.cell? ⟨b, a2, none⟩ = some v2 ∧ W.cell? ⟨b, a3, none⟩ = some v3 ∧ W.cell? ⟨b, a4, none⟩ = some v4 ∧ W.cell? ⟨b, a5, none⟩ = some v5 ∧ g < W.heap.size ∧ b < W.heap.size) (h1 : g < q) (h2 : b < q) :
    (∀ i, (((((W.setCell ⟨q, 0, none⟩ x).setCell ⟨q, 1, none⟩ y).setCell ⟨q, 2, none⟩ z).setCell ⟨q, 3, none⟩ u).setCell ⟨q, 4, none⟩ v).cell? ⟨g, i, none⟩ = c[i]?) ∧ (((((W.setCell ⟨q, 0, none⟩ x).setCell ⟨q, 1, none⟩ y).setCell ⟨q, 2, none⟩ z).setCell ⟨q, 3, none⟩ u).setCell ⟨q, 4, none⟩ v).cell? ⟨b, a1, none⟩ = some v1 ∧ (((((W.setCell ⟨q, 0, none⟩ x).setCell ⟨q, 1, none⟩ y).setCell ⟨q, 2, none⟩ z).setCell ⟨q, 3, none⟩ u).setCell ⟨q, 4, none⟩ v).cell? ⟨b, a2, none⟩ = some v2 ∧ (((((W.setCell ⟨q, 0, none⟩ x).setCell ⟨q, 1, none⟩ y).setCell ⟨q, 2, none⟩ z).setCell ⟨q, 3, none⟩ u).setCell ⟨q, 4, none⟩ v).cell? ⟨b, a3, none⟩ = some v3 ∧ (((((W.setCell ⟨q, 0, none⟩ x).setCell ⟨q, 1, none⟩ y).setCell ⟨q, 2, none⟩ z).setCell ⟨q, 3, none⟩ u).setCell ⟨q, 4, none⟩ v).cell? ⟨b, a4, none⟩ = some v4 ∧ (((((W.setCell ⟨q, 0, none⟩ x).setCell ⟨q, 1, none⟩ y).setCell ⟨q, 2, none⟩ z).setCell ⟨q, 3, none⟩ u).setCell ⟨q, 4, none⟩ v).cell? ⟨b, a5, none⟩ = some v5 ∧ g < (((((W.setCell ⟨q, 0, none⟩ x).setCell ⟨q, 1, none⟩ y).setCell ⟨q, 2, none⟩ z).setCell ⟨q, 3, none⟩ u).setCell ⟨q, 4, none⟩ v).heap.size ∧ b < (((((W.setCell ⟨q, 0, none⟩ x).setCell ⟨q, 1, none⟩ y).setCell ⟨q, 2, none⟩ z).setCell ⟨q, 3, none⟩ u).setCell ⟨q, 4, none⟩ v).heap.size := by
  obtain ⟨h0, q1, q2, q3, q4, q5, l1, l2⟩ := h
  have n1 : q ≠ g := by omega
  have n2 : q ≠ b := by omega
  exact ⟨fun i => (far5 n1).trans (h0 i), (far5 n2).trans q1, (far5 n2).trans q2, (far5 n2).trans q3, (far5 n2).trans q4, (far5 n2).trans q5, by simpa using l1, by simpa using l2⟩
theorem keep5 {W W2 : World} {g b : Nat} {c : Array Value} {a1 a2 a3 a4 a5 : Nat} {v1 v2 v3 v4 v5 : Value} (h : (∀ i, W.cell? ⟨g, i, none⟩ = c[i]?) ∧ W.cell? ⟨b, a1, none⟩ = some v1 ∧ W.cell? ⟨b, a2, none⟩ = some v2 ∧ W.cell? ⟨b, a3, none⟩ = some v3 ∧ W.cell? ⟨b, a4, none⟩ = some v4 ∧ W.cell? ⟨b, a5, none⟩ = some v5 ∧ g < W.heap.size ∧ b < W.heap.size) (h2 : Below W.heap.size W W2) :
    (∀ i, W2.cell? ⟨g, i, none⟩ = c[i]?) ∧ W2.cell? ⟨b, a1, none⟩ = some v1 ∧ W2.cell? ⟨b, a2, none⟩ = some v2 ∧ W2.cell? ⟨b, a3, none⟩ = some v3 ∧ W2.cell? ⟨b, a4, none⟩ = some v4 ∧ W2.cell? ⟨b, a5, none⟩ = some v5 ∧ g < W2.heap.size ∧ b < W2.heap.size := by
  obtain ⟨h1, q1, q2, q3, q4, q5, l1, l2⟩ := h
  exact ⟨fun i => (h2.cell (p := ⟨g, i, none⟩) l1).trans (h1 i), (h2.cell (p := ⟨b, a1, none⟩) l2).trans q1, (h2.cell (p := ⟨b, a2, none⟩) l2).trans q2, (h2.cell (p := ⟨b, a3, none⟩) l2).trans q3, (h2.cell (p := ⟨b, a4, none⟩) l2).trans q4, (h2.cell (p := ⟨b, a5, none⟩) l2).trans q5, by have := h2.size; omega, by have := h2.size; omega⟩
set_option maxRecDepth 100000 in
set_option maxHeartbeats 4000000 in
theorem r_StateAt_e (AR AZ AL : Option Addr) (cR cZ cL : Nat) (rs : List RuT) (zs : List ZoT) (ls : List LkT) (nm : ByteArray) (hnm : nm.size ≤ maxLen) (t : Int) (w : World) (H : BkOk w w.heap.size ⟨AR, AZ, AL, cR, cZ, cL, rs, zs, ls⟩) (n : Int) (h0 : n ≠ 0) (hcase : bookE rs zs ls = n ∨ bookE rs zs ls = 0 ∧ rsV (res zs ls (ls.length + 1) nm) = .tuple #[zo0, .int .i64 n]) :
    Calls Tryz.prog 14 #[.agg #[.slice AR rs.length cR, .slice AZ zs.length cZ, .slice AL ls.length cL], .string nm, .int .i64 t] w fun e w' => e = .returned (.tuple #[.agg #[.int .i64 0, .bool false, .string ⟨#[]⟩], .int .i64 n]) ∧ Below w.heap.size w w' := by
  have hb1 := (Below.refl w.heap.size w).alloc (Nat.le_refl _) (.cells #[.slice AR rs.length cR, .slice AZ zs.length cZ, .slice AL ls.length cL] 26)
  have hb2 := hb1.alloc (by rw [size_alloc]; omega) (.cells #[.int .i64 0, .bool false, .string ⟨#[]⟩] 37)
  have k1 := (Blk.new w #[.slice AR rs.length cR, .slice AZ zs.length cZ, .slice AL ls.length cL] 26).alloc (.cells #[.int .i64 0, .bool false, .string ⟨#[]⟩] 37)
  have k2 := Blk.new (w.alloc (.cells #[.slice AR rs.length cR, .slice AZ zs.length cZ, .slice AL ls.length cL] 26)) #[.int .i64 0, .bool false, .string ⟨#[]⟩] 37
  rw [size_alloc] at k2
  have HC := Lib.hid (fun (V : World) (hb : Below w.heap.size w V) => (show Calls Tryz.prog 43 #[.agg #[.slice AR rs.length cR, .slice AZ zs.length cZ, .slice AL ls.length cL], .string nm] V fun e w' => e = .returned (.tuple #[.agg #[.string ⟨#[]⟩, .slice none 0 0], .int .i64 n]) ∧ Below V.heap.size V w' from by
    rcases hcase with h1 | ⟨h1, h2⟩
    · exact r_Resolve_no AR AZ AL cR cZ cL rs zs ls nm hnm V (H.step hb) n h1 h0
    · have := r_Resolve' AR AZ AL cR cZ cL rs zs ls nm hnm V (H.step hb) h1; rw [h2] at this; exact this))
  obtain ⟨W, hW⟩ : ∃ W, (w.alloc (.cells #[.slice AR rs.length cR, .slice AZ zs.length cZ, .slice AL ls.length cL] 26)).alloc (.cells #[.int .i64 0, .bool false, .string ⟨#[]⟩] 37) = W := ⟨_, rfl⟩
  rw [hW] at hb2 k1 k2
  have HB := Lib.hid hb2
  have HK := Lib.hid k1
  have HT := Lib.hid k2
  have h2 : (n != 0) = true := by rw [bne_iff_ne]; exact h0
  obtain ⟨B, hBe⟩ : ∃ B, w.heap.size = B := ⟨_, rfl⟩
  have HBe := Lib.hid hBe
  clear hb1 hb2 k1 k2 H hcase h0
  go_enter Tryz.func14, Tryz.ntmps14
  go_upto_region 1 with fail
  have hb0 := HB.out
  rw [hBe] at HT HK
  have kr := HK.out.cell
  have kl := HK.out.lt
  clear hBe
  go_wp2_with fail
  refine (HC.out _ hb0).mono ?_
  rintro e w2 ⟨rfl, hb2⟩
  have hb3 := hb2.alloc hb2.size (.cells #[.string ⟨#[]⟩, .slice none 0 0] 74)
  replace HT := Lib.hid (HT.out.step hb3)
  replace HB := Lib.hid (HB.out.trans (hb3.mono HB.out.size))
  clear hb2 hb3 kr kl hb0 HC HK
  go_upto_region 2 with fail
  obtain ⟨V, hV⟩ : ∃ V, w2.alloc (.cells #[.string ⟨#[]⟩, .slice none 0 0] 74) = V := ⟨_, rfl⟩
  rw [hV] at HT HB ⊢
  clear hV
  have tr := HT.out.frz
  have tl := HT.out.lt
  have tc := HT.out.cell
  go_wp2_with fail
  have HF := Lib.hid (blk3 HT.out (x := .int .i64 0) (y := .bool false) (z := .string ⟨#[]⟩))
  have HBF := Lib.hid (show Below w.heap.size w (((V.setCell ⟨B + 1, 0, none⟩ (.int .i64 0)).setCell ⟨B + 1, 1, none⟩ (.bool false)).setCell ⟨B + 1, 2, none⟩ (.string ⟨#[]⟩)) from below3 HB.out (by have := HBe.out; omega))
  obtain ⟨U, hU⟩ : ∃ U, (((V.setCell ⟨B + 1, 0, none⟩ (.int .i64 0)).setCell ⟨B + 1, 1, none⟩ (.bool false)).setCell ⟨B + 1, 2, none⟩ (.string ⟨#[]⟩)) = U := ⟨_, rfl⟩
  rw [hU] at HF HBF ⊢
  have hf := HF.out.cell
  exact bodyPost_ret (v := .tuple #[.agg #[.int .i64 0, .bool false, .string ⟨#[]⟩], .int .i64 n]) (by simp [results, Tryz.results14, go_sem, hf]) rfl ⟨rfl, HBF.out⟩
set_option maxRecDepth 100000 in
set_option maxHeartbeats 8000000 in
theorem r_StateAt_z (AR AZ AL : Option Addr) (cR cZ cL : Nat) (rs : List RuT) (zs : List ZoT) (ls : List LkT) (nm : ByteArray) (hnm : nm.size ≤ maxLen) (t : Int) (w : World) (H : BkOk w w.heap.size ⟨AR, AZ, AL, cR, cZ, cL, rs, zs, ls⟩) (z : ZoT) (h : bookE rs zs ls = 0) (hres : res zs ls (ls.length + 1) nm = .zone z) (x : ErT) (hx : ∃ hk : eraI z.eras t < z.eras.length, z.eras[eraI z.eras t] = x) (E : Int) (hE : E = if stE t ≠ 0 then stE t else trnE rs x) (ty : Ty) (hty : ty = if E = 0 then typeV x (trnL rs x) t else (0, false, ⟨#[]⟩)) :
    Calls Tryz.prog 14 #[.agg #[.slice AR rs.length cR, .slice AZ zs.length cZ, .slice AL ls.length cL], .string nm, .int .i64 t] w fun e w' => e = .returned (.tuple #[.agg #[.int .i64 ty.1, .bool ty.2.1, .string ty.2.2], .int .i64 E]) ∧ Below w.heap.size w w' := by
  have hb1 := (Below.refl w.heap.size w).alloc (Nat.le_refl _) (.cells #[.slice AR rs.length cR, .slice AZ zs.length cZ, .slice AL ls.length cL] 26)
  have hb2 := hb1.alloc (by rw [size_alloc]; omega) (.cells #[.int .i64 0, .bool false, .string ⟨#[]⟩] 37)
  have k1 := (Blk.new w #[.slice AR rs.length cR, .slice AZ zs.length cZ, .slice AL ls.length cL] 26).alloc (.cells #[.int .i64 0, .bool false, .string ⟨#[]⟩] 37)
  have k2 := Blk.new (w.alloc (.cells #[.slice AR rs.length cR, .slice AZ zs.length cZ, .slice AL ls.length cL] 26)) #[.int .i64 0, .bool false, .string ⟨#[]⟩] 37
  rw [size_alloc] at k2
  have hEs := esOk_of h (res_mem hres)
  obtain ⟨e1, e2, e3, e4⟩ := hEs
  obtain ⟨hk, hxk⟩ := hx
  have hx4 := e4 x (by rw [← hxk]; exact List.getElem_mem hk)
  have hzo := H.zs z (res_mem hres)
  have hq1 := hzo.2.2.1
  have hq2 := hzo.2.2.2.1
  have hfm := (hzo.2.2.2.2 x (by rw [← hxk]; exact List.getElem_mem hk)).2.1
  have HRU := Lib.hid (rub_of_book h)
  have HC := Lib.hid (fun (V : World) (hb : Below w.heap.size w V) => (show Calls Tryz.prog 43 #[.agg #[.slice AR rs.length cR, .slice AZ zs.length cZ, .slice AL ls.length cL], .string nm] V fun e w' => e = .returned (.tuple #[.agg #[.string z.name, .slice z.A z.eras.length z.cap], .int .i64 0]) ∧ Below V.heap.size V w' from by have := r_Resolve' AR AZ AL cR cZ cL rs zs ls nm hnm V (H.step hb) h; rw [hres] at this; exact this))
  have HZA := Lib.hid (fun (V : World) (hb : Below w.heap.size w V) => hzo.2.1.below hb)
  have HEA := Lib.hid (fun (V : World) (hb : Below w.heap.size w V) => r_eraAt z.name z.A z.cap z.eras t V ((hzo.2.1.below hb).more hb.size) hq1 hq2 e1 e3)
  have HTu := Lib.hid (fun (V : World) (hb : Below w.heap.size w V) => r_Turns AR AZ AL cR cZ cL zs.length ls.length rs x.rules x.off V (H.step hb).R (H.step hb).hR (H.step hb).mR (bookE_inv h).1.1 HRU.out (by omega) (by omega))
  have HTA := Lib.hid (fun (A : Option Addr) (c : Nat) (V : World) (hA : SlAt V V.heap.size 3 A ((trnL rs x).map tuCells)) (hc : (trnL rs x).length ≤ c) (hm : c ≤ maxLen) => r_typeOf x A c (trnL rs x) t V hA hc hm (trnL_sorted rs x) (trnL_len rs x) (trn_ok HRU.out H.rs x (by omega) (by omega)) hx4.2 (by omega) hfm (fun hh => (trn_no hh).2))
  have HER := Lib.hid (fun (V : World) (hb : Below w.heap.size w V) => (show ∃ b o, z.A = some ⟨b, o, none⟩ ∧ b < w.heap.size ∧ V.cell? ⟨b, o + eraI z.eras t * 5, none⟩ = some (.int .i64 x.off) ∧ V.cell? ⟨b, o + eraI z.eras t * 5 + 1, none⟩ = some (.string x.rules) ∧ V.cell? ⟨b, o + eraI z.eras t * 5 + 2, none⟩ = some (.int .i64 x.save) ∧ V.cell? ⟨b, o + eraI z.eras t * 5 + 3, none⟩ = some (.string x.format) ∧ V.cell? ⟨b, o + eraI z.eras t * 5 + 4, none⟩ = some (.int .i64 x.until_) from by have := er_at (hzo.2.1.below hb) hk; rw [hxk] at this; exact this))
  obtain ⟨W, hW⟩ : ∃ W, (w.alloc (.cells #[.slice AR rs.length cR, .slice AZ zs.length cZ, .slice AL ls.length cL] 26)).alloc (.cells #[.int .i64 0, .bool false, .string ⟨#[]⟩] 37) = W := ⟨_, rfl⟩
  rw [hW] at hb2 k1 k2
  have HB := Lib.hid hb2
  have HK := Lib.hid k1
  have HT := Lib.hid k2
  have HE := Lib.hid hE
  have HTy := Lib.hid hty
  obtain ⟨B, hBe⟩ : ∃ B, w.heap.size = B := ⟨_, rfl⟩
  have HBe := Lib.hid hBe
  obtain ⟨KI, hKI⟩ : ∃ KI, eraI z.eras t = KI := ⟨_, rfl⟩
  obtain ⟨N, hN⟩ : ∃ N, z.eras.length = N := ⟨_, rfl⟩
  obtain ⟨ZA, hZA⟩ : ∃ ZA, z.A = ZA := ⟨_, rfl⟩
  obtain ⟨zc, hzc⟩ : ∃ zc, z.cap = zc := ⟨_, rfl⟩
  have hKN : KI < N := by rw [← hKI, ← hN]; exact hk
  have hN7 : N ≤ 700 := by rw [← hN]; exact e2
  rw [hKI] at HEA HER
  rw [hN] at HC HEA hq1
  rw [hZA] at HC HEA HER
  rw [hzc] at HC HEA hq1 hq2
  unfold maxLen at hq2
  clear hb1 hb2 k1 k2 H h hres hE hty hxk e1 e2 e3 e4 hx4 hKI hN HRU hzo hfm hZA hzc HZA
  go_enter Tryz.func14, Tryz.ntmps14
  go_upto_region 1 with fail
  have hb0 := HB.out
  rw [hBe] at HT HK
  have kr := HK.out.cell
  have kl := HK.out.lt
  clear hBe
  go_wp2_with fail
  refine (HC.out _ hb0).mono ?_
  rintro e w2 ⟨rfl, hb2⟩
  have hb3 := hb2.alloc hb2.size (.cells #[.string z.name, .slice ZA N zc] 74)
  replace HT := Lib.hid (HT.out.step hb3)
  replace HK := Lib.hid (HK.out.step hb3)
  have HZ := Lib.hid (Blk.new w2 #[.string z.name, .slice ZA N zc] 74)
  replace HB := Lib.hid (hb0.trans (hb3.mono hb0.size))
  clear hb2 hb3 kr kl hb0 HC
  go_upto_region 2 with fail
  obtain ⟨V, hV⟩ : ∃ V, w2.alloc (.cells #[.string z.name, .slice ZA N zc] 74) = V := ⟨_, rfl⟩
  obtain ⟨gz, hgz⟩ : ∃ gz, w2.heap.size = gz := ⟨_, rfl⟩
  rw [hV] at HT HB HK HZ ⊢
  rw [hgz] at HZ ⊢
  clear hV hgz
  have HIT := Lib.hid (isTime_st t)
  obtain ⟨s, hs⟩ : ∃ s, stE t = s := ⟨_, rfl⟩
  rw [hs] at HE HIT
  obtain ⟨tb, htb⟩ : ∃ tb, isTimeB t = tb := ⟨_, rfl⟩
  rw [htb] at HIT
  have HCI := Lib.hid (show Calls Tryz.prog 44 #[.int .i64 t] V fun e w' => e = .returned (.bool tb) ∧ V = w' from by rw [← htb]; exact r_IsTime t V)
  have HS1 := Lib.hid (show s = 0 ∨ s = 1 from by rw [← hs, stE]; split <;> simp)
  clear hs htb
  by_cases h0 : s = 0
  · subst h0
    have htb : tb = true := by rw [HIT.out]; rfl
    subst htb
    clear HIT HS1
    go_wp2_with (go_at_call 44; refine HCI.out.mono ?_; rintro e w4 ⟨rfl, rfl⟩)
    obtain ⟨b5, o5, rfl, hb5, d0, d1, d2, d3, d4⟩ := HER.out _ HB.out
    have hi1 : (0 : Int) ≤ (KI : Int) := by omega
    have hi2 : (KI : Int) < (N : Int) := by omega
    have hbV : b5 < V.heap.size := by have := HB.out.size; omega
    have HCell := Lib.hid (fun (W' : World) (hb : Below V.heap.size V W') => (show W'.cell? ⟨b5, o5 + KI * 5, none⟩ = some (.int .i64 x.off) ∧ W'.cell? ⟨b5, o5 + KI * 5 + 1, none⟩ = some (.string x.rules) ∧ W'.cell? ⟨b5, o5 + KI * 5 + 2, none⟩ = some (.int .i64 x.save) ∧ W'.cell? ⟨b5, o5 + KI * 5 + 3, none⟩ = some (.string x.format) ∧ W'.cell? ⟨b5, o5 + KI * 5 + 4, none⟩ = some (.int .i64 x.until_) from ⟨(hb.cell (p := ⟨b5, _, none⟩) hbV).trans d0, (hb.cell (p := ⟨b5, _, none⟩) hbV).trans d1, (hb.cell (p := ⟨b5, _, none⟩) hbV).trans d2, (hb.cell (p := ⟨b5, _, none⟩) hbV).trans d3, (hb.cell (p := ⟨b5, _, none⟩) hbV).trans d4⟩))
    clear d0 d1 d2 d3 d4 HCI HER
    refine wp_region_noPanic ?_
    refine wp_region_held_drew (S := fun W' : World => Below V.heap.size V W') (by kernel_rfl) (Below.refl _ _).drew (fun hHeld0 => ?_)
    have hHeld : Below V.heap.size V V.drew := hHeld0
    clear hHeld0
    refine wpAnyH_take (i := 0) (v := ?_) rfl (by kernel_rfl) (by kernel_rfl) (by kernel_rfl) (fun _ _ _ h => h) (Or.inl ⟨by rfl, ?_⟩) hHeld ?_
    rotate_left
    · intro wq hSw
      go_simp
      try with_reducible rfl
    try simp only [Act.put, List.getElem_toArray, List.getElem_cons_succ, List.getElem_cons_zero, List.setIfInBounds_toArray, List.set_cons_zero, List.set_cons_succ]
    refine wpAnyH_take (i := 1) (v := ?_) rfl (by kernel_rfl) (by kernel_rfl) (by kernel_rfl) (fun _ _ _ h => h) (Or.inl ⟨by rfl, ?_⟩) hHeld ?_
    rotate_left
    · intro wq hSw
      have zc := (HZ.out.step hSw).cell
      go_simp
      try with_reducible rfl
    try simp only [Act.put, List.getElem_toArray, List.getElem_cons_succ, List.getElem_cons_zero, List.setIfInBounds_toArray, List.set_cons_zero, List.set_cons_succ]
    refine wpAnyH_take (i := 2) (v := ?_) rfl (by kernel_rfl) (by kernel_rfl) (by kernel_rfl) (fun _ _ _ h => h) (Or.inl ⟨by rfl, ?_⟩) hHeld ?_
    rotate_left
    · intro wq hSw
      have zc := (HZ.out.step hSw).cell
      go_simp
      try with_reducible rfl
    try simp only [Act.put, List.getElem_toArray, List.getElem_cons_succ, List.getElem_cons_zero, List.setIfInBounds_toArray, List.set_cons_zero, List.set_cons_succ]
    refine wpAnyH_take (i := 3) (v := ?_) rfl (by kernel_rfl) (by kernel_rfl) (by kernel_rfl) (fun _ _ _ h => h) (Or.inl ⟨by rfl, ?_⟩) hHeld ?_
    rotate_left
    · intro wq hSw
      go_simp
      try with_reducible rfl
    try simp only [Act.put, List.getElem_toArray, List.getElem_cons_succ, List.getElem_cons_zero, List.setIfInBounds_toArray, List.set_cons_zero, List.set_cons_succ]
    refine wpAnyH_ready (rs := [4, 7]) (by kernel_rfl) (by simp) ?_
    refine AllReadyH.cons rfl (fun K hK => ?_) (AllReadyH.cons rfl (fun K hK => ?_) AllReadyH.nil)
    · skip
      go_simp
      go_at_call 45
      refine (HEA.out _ (HB.out.trans (hHeld.mono HB.out.size))).mono ?_
      rintro e w8 ⟨rfl, hb8⟩
      have hS8 := hHeld.trans (hb8.mono hHeld.size)
      try go_wp2_with fail
      refine hK.out _ _ hS8 (fun hHeld2 => ?_)
      clear hK K hHeld hb8
      have hHeld := hS8
      clear hS8 hHeld2
      try simp only [Act.put, List.getElem_toArray, List.getElem_cons_succ, List.getElem_cons_zero, List.setIfInBounds_toArray, List.set_cons_zero, List.set_cons_succ]
      refine wpAnyH_take (i := 5) (v := ?_) rfl (by kernel_rfl) (by kernel_rfl) (by kernel_rfl) (fun _ _ _ h => h) (Or.inl ⟨by rfl, ?_⟩) hHeld ?_
      rotate_left
      · intro wq hSw
        go_simp
        try with_reducible rfl
      try simp only [Act.put, List.getElem_toArray, List.getElem_cons_succ, List.getElem_cons_zero, List.setIfInBounds_toArray, List.set_cons_zero, List.set_cons_succ]
      refine wpAnyH_take (i := 6) (v := ?_) rfl (by kernel_rfl) (by kernel_rfl) (by kernel_rfl) (fun _ _ _ h => h) (Or.inl ⟨by rfl, ?_⟩) hHeld ?_
      rotate_left
      · intro wq hSw
        obtain ⟨d0, d1, d2, d3, d4⟩ := HCell.out _ hSw
        go_simp
        try with_reducible rfl
      try simp only [Act.put, List.getElem_toArray, List.getElem_cons_succ, List.getElem_cons_zero, List.setIfInBounds_toArray, List.set_cons_zero, List.set_cons_succ]
      refine wpAnyH_ready (rs := [7]) (by kernel_rfl) (by simp) ?_
      refine AllReadyH.cons rfl (fun K hK => ?_) AllReadyH.nil
      go_simp
      have hS8 := hHeld.alloc hHeld.size (.cells #[.int .i64 0, .string ⟨#[]⟩, .int .i64 0, .string ⟨#[]⟩, .int .i64 0] 93)
      refine hK.out _ _ hS8 (fun hHeld2 => ?_)
      clear hK K hHeld2
      have hHeld9 := Lib.hid hHeld
      clear hHeld
      have hHeld := hS8
      clear hS8
      try simp only [Act.put, List.getElem_toArray, List.getElem_cons_succ, List.getElem_cons_zero, List.setIfInBounds_toArray, List.set_cons_zero, List.set_cons_succ]
      refine wpAnyH_ready (rs := [8]) (by kernel_rfl) (by simp) ?_
      refine AllReadyH.cons rfl (fun K hK => ?_) AllReadyH.nil
      go_simp
      have hS8 := hHeld9.out.alloc hHeld9.out.size (.cells #[.int .i64 x.off, .string x.rules, .int .i64 x.save, .string x.format, .int .i64 x.until_] 93)
      have HX := Lib.hid (Blk.new w8 #[.int .i64 x.off, .string x.rules, .int .i64 x.save, .string x.format, .int .i64 x.until_] 93)
      refine hK.out _ _ hS8 (fun hHeld2 => ?_)
      clear hK K hHeld2 hHeld hHeld9
      have hHeld := hS8
      clear hS8
      try simp only [Act.put, List.getElem_toArray, List.getElem_cons_succ, List.getElem_cons_zero, List.setIfInBounds_toArray, List.set_cons_zero, List.set_cons_succ]
      refine wpAnyH_done (by kernel_rfl) ?_ _
      refine NoPanic.normal ?_
      obtain ⟨W1, hW1⟩ : ∃ W1, w8.alloc (.cells #[.int .i64 x.off, .string x.rules, .int .i64 x.save, .string x.format, .int .i64 x.until_] 93) = W1 := ⟨_, rfl⟩
      obtain ⟨g1, hg1⟩ : ∃ g, w8.heap.size = g := ⟨_, rfl⟩
      rw [hW1] at HX hHeld ⊢
      rw [hg1] at HX ⊢
      clear hW1 hg1
      replace HT := Lib.hid (HT.out.step hHeld)
      replace HK := Lib.hid (HK.out.step hHeld)
      replace HB := Lib.hid (HB.out.trans (hHeld.mono HB.out.size))
      clear hHeld HZ HEA HCell
      have hEE : E = trnE rs x := by rw [HE.out, if_neg (by simp)]
      have HEE := Lib.hid hEE
      clear hEE HE
      have hm2 := mt_em x.rules
      have xc := HX.out.cell
      have xl := HX.out.lt
      go_upto_if 35 with fail
      clear xc xl
      cases hE : sEq x.rules eMT with
      | true =>
        rw [hE] at hm2
        simp only [hm2, Bool.not_true]
        have hX := trn_no (rs := rs) hE
        have hE0 : E = 0 := by rw [HEE.out, hX.1]
        subst hE0
        have hTy := HTy.out
        rw [if_pos rfl] at hTy
        have hC9 := HTA.out none 0 W1 (by rw [hX.2]; exact SlAt.none_ _ _ _ _) (by rw [hX.2]; exact Nat.le_refl _) (by unfold maxLen; omega)
        obtain ⟨t1, t2, t3⟩ := ty
        rw [← hTy] at hC9
        rw [hX.2] at hC9
        simp only [List.length_nil] at hC9
        have HC9 := Lib.hid hC9
        clear hE hm2 hX hTy hC9 HTy HTA HTu HEE HK
        have xc := HX.out.cell
        have xl := HX.out.lt
        have tr := HT.out.frz
        have tl := HT.out.lt
        have tc := HT.out.cell
        go_wp2_with fail
        refine HC9.out.mono ?_
        rintro e w9 ⟨rfl, hb10⟩
        replace HT := Lib.hid (HT.out.step hb10)
        replace HB := Lib.hid (HB.out.trans (hb10.mono HB.out.size))
        clear hb10 tr tl tc HC9 xc xl
        have tr := HT.out.frz
        have tl := HT.out.lt
        have tc := HT.out.cell
        go_wp2_with fail
        have HF := Lib.hid (blk3 HT.out (x := .int .i64 t1) (y := .bool t2) (z := .string t3))
        have HBF := Lib.hid (show Below w.heap.size w (((w9.setCell ⟨B + 1, 0, none⟩ (.int .i64 t1)).setCell ⟨B + 1, 1, none⟩ (.bool t2)).setCell ⟨B + 1, 2, none⟩ (.string t3)) from below3 HB.out (by have := HBe.out; omega))
        obtain ⟨U, hU⟩ : ∃ U, (((w9.setCell ⟨B + 1, 0, none⟩ (.int .i64 t1)).setCell ⟨B + 1, 1, none⟩ (.bool t2)).setCell ⟨B + 1, 2, none⟩ (.string t3)) = U := ⟨_, rfl⟩
        rw [hU] at HF HBF ⊢
        have hf := HF.out.cell
        exact bodyPost_ret (v := .tuple #[.agg #[.int .i64 t1, .bool t2, .string t3], .int .i64 0]) (by simp [results, Tryz.results14, go_sem, hf]) rfl ⟨rfl, HBF.out⟩
      | false =>
        rw [hE] at hm2
        simp only [hm2, Bool.not_false]
        have HXY := Lib.hid (trn_yes (rs := rs) hE)
        have HC10 := Lib.hid (HTu.out W1 HB.out)
        have kb := HK.out.cell
        have kl := HK.out.lt
        have xc := HX.out.cell
        have xl := HX.out.lt
        clear hE hm2 HTu
        go_wp2_with fail
        refine HC10.out.mono ?_
        rintro e w10 ⟨v, rfl, hv, hb10⟩
        rw [← HXY.out.1, ← HXY.out.2] at *
        rw [← HEE.out]
        obtain ⟨A9, c9, rfl, g1, g2, hA9⟩ := own_tu hv
        have HC9' := Lib.hid (HTA.out A9 c9 w10 hA9 g1 g2)
        replace HT := Lib.hid (HT.out.step hb10)
        replace HX := Lib.hid (HX.out.step hb10)
        replace HB := Lib.hid (HB.out.trans (hb10.mono HB.out.size))
        clear hv hb10 hA9 kb kl xc xl HTA HC10 HK HXY
        by_cases hF0 : E = 0
        · subst hF0
          have hTy := HTy.out
          rw [if_pos rfl] at hTy
          obtain ⟨t1, t2, t3⟩ := ty
          have hC9 := HC9'.out
          rw [← hTy] at hC9
          simp only at hC9
          have HC9 := Lib.hid hC9
          obtain ⟨L9, hL9⟩ : ∃ L, (trnL rs x).length = L := ⟨_, rfl⟩
          rw [hL9] at HC9 g1 ⊢
          clear hTy HTy hC9 HC9' HEE hL9
          have xc := HX.out.cell
          have xl := HX.out.lt
          have tr := HT.out.frz
          have tl := HT.out.lt
          have tc := HT.out.cell
          go_wp2_with fail
          refine HC9.out.mono ?_
          rintro e w9 ⟨rfl, hb10⟩
          replace HT := Lib.hid (HT.out.step hb10)
          replace HB := Lib.hid (HB.out.trans (hb10.mono HB.out.size))
          clear hb10 tr tl tc HC9 xc xl
          have tr := HT.out.frz
          have tl := HT.out.lt
          have tc := HT.out.cell
          go_wp2_with fail
          have HF := Lib.hid (blk3 HT.out (x := .int .i64 t1) (y := .bool t2) (z := .string t3))
          have HBF := Lib.hid (show Below w.heap.size w (((w9.setCell ⟨B + 1, 0, none⟩ (.int .i64 t1)).setCell ⟨B + 1, 1, none⟩ (.bool t2)).setCell ⟨B + 1, 2, none⟩ (.string t3)) from below3 HB.out (by have := HBe.out; omega))
          obtain ⟨U, hU⟩ : ∃ U, (((w9.setCell ⟨B + 1, 0, none⟩ (.int .i64 t1)).setCell ⟨B + 1, 1, none⟩ (.bool t2)).setCell ⟨B + 1, 2, none⟩ (.string t3)) = U := ⟨_, rfl⟩
          rw [hU] at HF HBF ⊢
          have hf := HF.out.cell
          exact bodyPost_ret (v := .tuple #[.agg #[.int .i64 t1, .bool t2, .string t3], .int .i64 0]) (by simp [results, Tryz.results14, go_sem, hf]) rfl ⟨rfl, HBF.out⟩
        · have hTy := HTy.out
          rw [if_neg hF0] at hTy
          subst hTy
          have h2 : (E != 0) = true := by rw [bne_iff_ne]; exact hF0
          have tr := HT.out.frz
          have tl := HT.out.lt
          have tc := HT.out.cell
          clear hF0 HEE HC9'
          go_wp2_with fail
          have HF := Lib.hid (blk3 HT.out (x := .int .i64 0) (y := .bool false) (z := .string ⟨#[]⟩))
          have HBF := Lib.hid (show Below w.heap.size w (((w10.setCell ⟨B + 1, 0, none⟩ (.int .i64 0)).setCell ⟨B + 1, 1, none⟩ (.bool false)).setCell ⟨B + 1, 2, none⟩ (.string ⟨#[]⟩)) from below3 HB.out (by have := HBe.out; omega))
          obtain ⟨U, hU⟩ : ∃ U, (((w10.setCell ⟨B + 1, 0, none⟩ (.int .i64 0)).setCell ⟨B + 1, 1, none⟩ (.bool false)).setCell ⟨B + 1, 2, none⟩ (.string ⟨#[]⟩)) = U := ⟨_, rfl⟩
          rw [hU] at HF HBF ⊢
          have hf := HF.out.cell
          exact bodyPost_ret (v := .tuple #[.agg #[.int .i64 0, .bool false, .string ⟨#[]⟩], .int .i64 E]) (by simp [results, Tryz.results14, go_sem, hf]) rfl ⟨rfl, HBF.out⟩
    · skip
      go_simp
      have hX8 := Lib.hid ((Blk.new V #[.int .i64 0, .string ⟨#[]⟩, .int .i64 0, .string ⟨#[]⟩, .int .i64 0] 93).drew)
      have hS8 := ((Below.refl V.heap.size V).alloc (Nat.le_refl _) (.cells #[.int .i64 0, .string ⟨#[]⟩, .int .i64 0, .string ⟨#[]⟩, .int .i64 0] 93)).drew
      refine hK.out _ _ hS8 (fun hHeld2 => ?_)
      clear hK K hHeld hHeld2
      have hHeld := hS8
      clear hS8
      try simp only [Act.put, List.getElem_toArray, List.getElem_cons_succ, List.getElem_cons_zero, List.setIfInBounds_toArray, List.set_cons_zero, List.set_cons_succ]
      refine wpAnyH_ready (rs := [4]) (by kernel_rfl) (by simp) ?_
      refine AllReadyH.cons rfl (fun K hK => ?_) AllReadyH.nil
      go_simp
      go_at_call 45
      refine (HEA.out _ (HB.out.trans (hHeld.mono HB.out.size))).mono ?_
      rintro e w8 ⟨rfl, hb8⟩
      replace hX8 := Lib.hid (hX8.out.step hb8)
      have hS8 := hHeld.trans (hb8.mono hHeld.size)
      try go_wp2_with fail
      refine hK.out _ _ hS8 (fun hHeld2 => ?_)
      clear hK K hHeld hb8
      have hHeld := hS8
      clear hS8 hHeld2
      try simp only [Act.put, List.getElem_toArray, List.getElem_cons_succ, List.getElem_cons_zero, List.setIfInBounds_toArray, List.set_cons_zero, List.set_cons_succ]
      refine wpAnyH_take (i := 5) (v := ?_) rfl (by kernel_rfl) (by kernel_rfl) (by kernel_rfl) (fun _ _ _ h => h) (Or.inl ⟨by rfl, ?_⟩) hHeld ?_
      rotate_left
      · intro wq hSw
        go_simp
        try with_reducible rfl
      try simp only [Act.put, List.getElem_toArray, List.getElem_cons_succ, List.getElem_cons_zero, List.setIfInBounds_toArray, List.set_cons_zero, List.set_cons_succ]
      refine wpAnyH_take (i := 6) (v := ?_) rfl (by kernel_rfl) (by kernel_rfl) (by kernel_rfl) (fun _ _ _ h => h) (Or.inl ⟨by rfl, ?_⟩) hHeld ?_
      rotate_left
      · intro wq hSw
        obtain ⟨d0, d1, d2, d3, d4⟩ := HCell.out _ hSw
        go_simp
        try with_reducible rfl
      try simp only [Act.put, List.getElem_toArray, List.getElem_cons_succ, List.getElem_cons_zero, List.setIfInBounds_toArray, List.set_cons_zero, List.set_cons_succ]
      have y0 := hX8.out.cell
      have y1 := hX8.out.frz
      have y2 := hX8.out.lt
      refine wpAnyH_ready (rs := [8]) (by kernel_rfl) (by simp) ?_
      refine AllReadyH.cons rfl (fun K hK => ?_) AllReadyH.nil
      go_simp
      have hS8 := below5 (w := V) (b3 := V.heap.size) (x := .int .i64 x.off) (y := .string x.rules) (z := .int .i64 x.save) (u := .string x.format) (v := .int .i64 x.until_) hHeld (Nat.le_refl _)
      have HX := Lib.hid (blk5 hX8.out (x := .int .i64 x.off) (y := .string x.rules) (z := .int .i64 x.save) (u := .string x.format) (v := .int .i64 x.until_))
      refine hK.out _ _ hS8 (fun hHeld2 => ?_)
      clear hK K hHeld2 hHeld hX8 y0 y1 y2
      have hHeld := hS8
      clear hS8
      try simp only [Act.put, List.getElem_toArray, List.getElem_cons_succ, List.getElem_cons_zero, List.setIfInBounds_toArray, List.set_cons_zero, List.set_cons_succ]
      refine wpAnyH_done (by kernel_rfl) ?_ _
      refine NoPanic.normal ?_
      obtain ⟨W1, hW1⟩ : ∃ W1, (((((w8.setCell ⟨V.heap.size, 0, none⟩ (.int .i64 x.off)).setCell ⟨V.heap.size, 1, none⟩ (.string x.rules)).setCell ⟨V.heap.size, 2, none⟩ (.int .i64 x.save)).setCell ⟨V.heap.size, 3, none⟩ (.string x.format)).setCell ⟨V.heap.size, 4, none⟩ (.int .i64 x.until_)) = W1 := ⟨_, rfl⟩
      rw [hW1] at HX hHeld ⊢
      clear hW1
      replace HT := Lib.hid (HT.out.step hHeld)
      replace HK := Lib.hid (HK.out.step hHeld)
      replace HB := Lib.hid (HB.out.trans (hHeld.mono HB.out.size))
      clear hHeld HZ HEA HCell
      have hEE : E = trnE rs x := by rw [HE.out, if_neg (by simp)]
      have HEE := Lib.hid hEE
      clear hEE HE
      have hm2 := mt_em x.rules
      have xc := HX.out.cell
      have xl := HX.out.lt
      go_upto_if 35 with fail
      clear xc xl
      cases hE : sEq x.rules eMT with
      | true =>
        rw [hE] at hm2
        simp only [hm2, Bool.not_true]
        have hX := trn_no (rs := rs) hE
        have hE0 : E = 0 := by rw [HEE.out, hX.1]
        subst hE0
        have hTy := HTy.out
        rw [if_pos rfl] at hTy
        have hC9 := HTA.out none 0 W1 (by rw [hX.2]; exact SlAt.none_ _ _ _ _) (by rw [hX.2]; exact Nat.le_refl _) (by unfold maxLen; omega)
        obtain ⟨t1, t2, t3⟩ := ty
        rw [← hTy] at hC9
        rw [hX.2] at hC9
        simp only [List.length_nil] at hC9
        have HC9 := Lib.hid hC9
        clear hE hm2 hX hTy hC9 HTy HTA HTu HEE HK
        have xc := HX.out.cell
        have xl := HX.out.lt
        have tr := HT.out.frz
        have tl := HT.out.lt
        have tc := HT.out.cell
        go_wp2_with fail
        refine HC9.out.mono ?_
        rintro e w9 ⟨rfl, hb10⟩
        replace HT := Lib.hid (HT.out.step hb10)
        replace HB := Lib.hid (HB.out.trans (hb10.mono HB.out.size))
        clear hb10 tr tl tc HC9 xc xl
        have tr := HT.out.frz
        have tl := HT.out.lt
        have tc := HT.out.cell
        go_wp2_with fail
        have HF := Lib.hid (blk3 HT.out (x := .int .i64 t1) (y := .bool t2) (z := .string t3))
        have HBF := Lib.hid (show Below w.heap.size w (((w9.setCell ⟨B + 1, 0, none⟩ (.int .i64 t1)).setCell ⟨B + 1, 1, none⟩ (.bool t2)).setCell ⟨B + 1, 2, none⟩ (.string t3)) from below3 HB.out (by have := HBe.out; omega))
        obtain ⟨U, hU⟩ : ∃ U, (((w9.setCell ⟨B + 1, 0, none⟩ (.int .i64 t1)).setCell ⟨B + 1, 1, none⟩ (.bool t2)).setCell ⟨B + 1, 2, none⟩ (.string t3)) = U := ⟨_, rfl⟩
        rw [hU] at HF HBF ⊢
        have hf := HF.out.cell
        exact bodyPost_ret (v := .tuple #[.agg #[.int .i64 t1, .bool t2, .string t3], .int .i64 0]) (by simp [results, Tryz.results14, go_sem, hf]) rfl ⟨rfl, HBF.out⟩
      | false =>
        rw [hE] at hm2
        simp only [hm2, Bool.not_false]
        have HXY := Lib.hid (trn_yes (rs := rs) hE)
        have HC10 := Lib.hid (HTu.out W1 HB.out)
        have kb := HK.out.cell
        have kl := HK.out.lt
        have xc := HX.out.cell
        have xl := HX.out.lt
        clear hE hm2 HTu
        go_wp2_with fail
        refine HC10.out.mono ?_
        rintro e w10 ⟨v, rfl, hv, hb10⟩
        rw [← HXY.out.1, ← HXY.out.2] at *
        rw [← HEE.out]
        obtain ⟨A9, c9, rfl, g1, g2, hA9⟩ := own_tu hv
        have HC9' := Lib.hid (HTA.out A9 c9 w10 hA9 g1 g2)
        replace HT := Lib.hid (HT.out.step hb10)
        replace HX := Lib.hid (HX.out.step hb10)
        replace HB := Lib.hid (HB.out.trans (hb10.mono HB.out.size))
        clear hv hb10 hA9 kb kl xc xl HTA HC10 HK HXY
        by_cases hF0 : E = 0
        · subst hF0
          have hTy := HTy.out
          rw [if_pos rfl] at hTy
          obtain ⟨t1, t2, t3⟩ := ty
          have hC9 := HC9'.out
          rw [← hTy] at hC9
          simp only at hC9
          have HC9 := Lib.hid hC9
          obtain ⟨L9, hL9⟩ : ∃ L, (trnL rs x).length = L := ⟨_, rfl⟩
          rw [hL9] at HC9 g1 ⊢
          clear hTy HTy hC9 HC9' HEE hL9
          have xc := HX.out.cell
          have xl := HX.out.lt
          have tr := HT.out.frz
          have tl := HT.out.lt
          have tc := HT.out.cell
          go_wp2_with fail
          refine HC9.out.mono ?_
          rintro e w9 ⟨rfl, hb10⟩
          replace HT := Lib.hid (HT.out.step hb10)
          replace HB := Lib.hid (HB.out.trans (hb10.mono HB.out.size))
          clear hb10 tr tl tc HC9 xc xl
          have tr := HT.out.frz
          have tl := HT.out.lt
          have tc := HT.out.cell
          go_wp2_with fail
          have HF := Lib.hid (blk3 HT.out (x := .int .i64 t1) (y := .bool t2) (z := .string t3))
          have HBF := Lib.hid (show Below w.heap.size w (((w9.setCell ⟨B + 1, 0, none⟩ (.int .i64 t1)).setCell ⟨B + 1, 1, none⟩ (.bool t2)).setCell ⟨B + 1, 2, none⟩ (.string t3)) from below3 HB.out (by have := HBe.out; omega))
          obtain ⟨U, hU⟩ : ∃ U, (((w9.setCell ⟨B + 1, 0, none⟩ (.int .i64 t1)).setCell ⟨B + 1, 1, none⟩ (.bool t2)).setCell ⟨B + 1, 2, none⟩ (.string t3)) = U := ⟨_, rfl⟩
          rw [hU] at HF HBF ⊢
          have hf := HF.out.cell
          exact bodyPost_ret (v := .tuple #[.agg #[.int .i64 t1, .bool t2, .string t3], .int .i64 0]) (by simp [results, Tryz.results14, go_sem, hf]) rfl ⟨rfl, HBF.out⟩
        · have hTy := HTy.out
          rw [if_neg hF0] at hTy
          subst hTy
          have h2 : (E != 0) = true := by rw [bne_iff_ne]; exact hF0
          have tr := HT.out.frz
          have tl := HT.out.lt
          have tc := HT.out.cell
          clear hF0 HEE HC9'
          go_wp2_with fail
          have HF := Lib.hid (blk3 HT.out (x := .int .i64 0) (y := .bool false) (z := .string ⟨#[]⟩))
          have HBF := Lib.hid (show Below w.heap.size w (((w10.setCell ⟨B + 1, 0, none⟩ (.int .i64 0)).setCell ⟨B + 1, 1, none⟩ (.bool false)).setCell ⟨B + 1, 2, none⟩ (.string ⟨#[]⟩)) from below3 HB.out (by have := HBe.out; omega))
          obtain ⟨U, hU⟩ : ∃ U, (((w10.setCell ⟨B + 1, 0, none⟩ (.int .i64 0)).setCell ⟨B + 1, 1, none⟩ (.bool false)).setCell ⟨B + 1, 2, none⟩ (.string ⟨#[]⟩)) = U := ⟨_, rfl⟩
          rw [hU] at HF HBF ⊢
          have hf := HF.out.cell
          exact bodyPost_ret (v := .tuple #[.agg #[.int .i64 0, .bool false, .string ⟨#[]⟩], .int .i64 E]) (by simp [results, Tryz.results14, go_sem, hf]) rfl ⟨rfl, HBF.out⟩
  · have hs1 : s = 1 := by rcases HS1.out with h | h; exact absurd h h0; exact h
    subst hs1
    have htb : tb = false := by rw [HIT.out]; rfl
    subst htb
    have hEs : E = 1 := by rw [HE.out, if_pos (by decide)]
    subst hEs
    have hTy := HTy.out
    rw [if_neg (by decide)] at hTy
    subst hTy
    have tr := HT.out.frz
    have tl := HT.out.lt
    have tc := HT.out.cell
    clear h0 HTA HE HTu HEA HER HIT HS1
    go_wp2_with (go_at_call 44; refine HCI.out.mono ?_; rintro e w4 ⟨rfl, rfl⟩)
    have HF := Lib.hid (blk3 HT.out (x := .int .i64 0) (y := .bool false) (z := .string ⟨#[]⟩))
    have HBF := Lib.hid (show Below w.heap.size w (((V.setCell ⟨B + 1, 0, none⟩ (.int .i64 0)).setCell ⟨B + 1, 1, none⟩ (.bool false)).setCell ⟨B + 1, 2, none⟩ (.string ⟨#[]⟩)) from below3 HB.out (by have := HBe.out; omega))
    obtain ⟨U, hU⟩ : ∃ U, (((V.setCell ⟨B + 1, 0, none⟩ (.int .i64 0)).setCell ⟨B + 1, 1, none⟩ (.bool false)).setCell ⟨B + 1, 2, none⟩ (.string ⟨#[]⟩)) = U := ⟨_, rfl⟩
    rw [hU] at HF HBF ⊢
    have hf := HF.out.cell
    exact bodyPost_ret (v := .tuple #[.agg #[.int .i64 0, .bool false, .string ⟨#[]⟩], .int .i64 1]) (by simp [results, Tryz.results14, go_sem, hf]) rfl ⟨rfl, HBF.out⟩
end Go.Proofs.YtanaoohgpdcfjaaGreatDoor
