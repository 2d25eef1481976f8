/- Walks of the reference's eraAt and typeOf. Walk of the reference's typeOf. Walk of the reference's StateAt. -/
import Derived.Test.YtanaoohgpdcfjaaGreatDoorSa
import Derived.Test.YtanaoohgpdcfjaaGreatDoorAbbrT
import Derived.Test.YtanaoohgpdcfjaaGreatDoorTuR
namespace Go.Proofs.YtanaoohgpdcfjaaGreatDoor
open Go.RowKit
set_option linter.unusedVariables false
set_option linter.unusedSimpArgs false
attribute [local go_sem ↓] Go.wp_at_zero Go.wp_at_succ
theorem eraI_at {es : List ErT} (hs : ErSorted es) {t : Int} {k : Nat} (hk : k < es.length - 1) (h1 : ∀ j (hj : j < es.length), j < k → es[j].until_ ≤ t) (h2 : t < (es[k]'(by omega)).until_) : eraI es t = k := by
  obtain ⟨a, b, c⟩ := eraI_spec hs t
  rcases Nat.lt_trichotomy (eraI es t) k with h | h | h
  · have h3 := c (eraI es t) (by omega) (Nat.le_refl _)
    have h4 := h1 (eraI es t) (by omega) h
    omega
  · exact h
  · have := b k (by omega) h; omega
theorem eraI_end {es : List ErT} (hs : ErSorted es) {t : Int} (h1 : ∀ j (hj : j < es.length), j < es.length - 1 → es[j].until_ ≤ t) : eraI es t = es.length - 1 := by
  obtain ⟨a, b, c⟩ := eraI_spec hs t
  by_cases h : eraI es t < es.length - 1
  · have h3 := c (eraI es t) h (Nat.le_refl _)
    have h4 := h1 (eraI es t) (by omega) h
    omega
  · omega
set_option maxRecDepth 100000 in
set_option maxHeartbeats 4000000 in
theorem r_eraAt (nz : ByteArray) (A : Option Addr) (c : Nat) (es : List ErT) (t : Int) (w : World) (hA : SlAt w w.heap.size 5 A (es.map erC)) (hc : es.length ≤ c) (hm : c ≤ maxLen) (h0 : 0 < es.length) (hs : ErSorted es) :
    Calls Tryz.prog 45 #[.agg #[.string nz, .slice A es.length c], .int .i64 t] w fun e w' => e = .returned (.int .i64 (eraI es t : Nat)) ∧ Below w.heap.size w w' := by
  unfold maxLen at hm
  have hb1 := (Below.refl w.heap.size w).alloc (Nat.le_refl _) (.cells #[.string nz, .slice A es.length c] 74)
  have k1 := Blk.new w #[.string nz, .slice A es.length c] 74
  have HAt := Lib.hid (fun (k : Nat) (hk : k < es.length - 1) => eraI_at (t := t) hs hk)
  have HEnd := Lib.hid (eraI_end (t := t) hs)
  obtain ⟨b0, o0, hA0⟩ : ∃ b o, A = some ⟨b, o, none⟩ := by obtain ⟨b, o, h, _⟩ := hA (by simpa using h0); exact ⟨b, o, h⟩
  subst hA0
  obtain ⟨n, hn⟩ : ∃ n, es.length = n + 1 := ⟨es.length - 1, by omega⟩
  have HN := Lib.hid hn
  rw [hn] at k1 hb1 hc ⊢
  have HB := Lib.hid hb1
  have HK := Lib.hid k1
  have HA := Lib.hid hA
  have hw1 : IntKind.i64.wrap ((n : Int) + 1 - 1) = (n : Int) := by rw [show (n : Int) + 1 - 1 = n by omega]; exact IntWalk.i64_in _ (by omega)
  have hw2 : (n : Int) + 1 - 1 = (n : Int) := by omega
  have hi1 : (0 : Int) ≤ (n : Int) := by omega
  have hi2 : (n : Int) ≤ (c : Int) := by omega
  have hi3 : (0 : Int) ≤ (c : Int) := by omega
  clear hb1 k1 hs h0 hn hA
  have kr := HK.out.cell
  have kl := HK.out.lt
  go_enter Tryz.func45, Tryz.ntmps45
  go_wp2_with fail
  clear kr kl
  go_loopw [15] (fun i wr => ∃ k : Nat, k ≤ n ∧ i = .int .i64 k ∧ Hid (∀ j (hj : j < es.length), j < k → es[j].until_ ≤ t) ∧ Hid (Blk wr w.heap.size 74 #[.string nz, .slice (some ⟨b0, o0, none⟩) (n + 1) c]) ∧ Hid (Below w.heap.size w wr)) (fun i _ => n - (intOf i).toNat)
  case atStart => exact ⟨0, Nat.zero_le _, rfl, Lib.hid (fun j hj h => absurd h (by omega)), HK, HB⟩
  case round =>
    clear HK HB
    obtain ⟨k, hk, rfl, HD, HK, HB⟩ := hrel
    by_cases hlt : k < n
    · have hke : k < es.length := by rw [HN.out]; omega
      obtain ⟨b, o, e, hb, c0, c1, c2, c3, c4⟩ := er_at (HA.out.below HB.out) hke
      simp only [Option.some.injEq, Addr.mk.injEq, and_true] at e
      obtain ⟨rfl, rfl⟩ := e
      have hz := HB.out.size
      have hbw : b0 < wr.heap.size := by omega
      have hi5 : (0 : Int) ≤ (k : Int) := by omega
      have hi6 : (k : Int) < (n : Int) := by omega
      have HE := Lib.hid (fun (h : t < es[k].until_) => HAt.out k (by rw [HN.out]; omega) HD.out h)
      have HG := Lib.hid (fun (h : es[k].until_ ≤ t) j (hj : j < es.length) (h2 : j < k + 1) => (if h3 : j < k then HD.out j hj h3 else (by obtain rfl : j = k := (by omega); exact h) : es[j].until_ ≤ t))
      obtain ⟨x, hx⟩ : ∃ x, es[k] = x := ⟨_, rfl⟩
      rw [hx] at c0 c1 c2 c3 c4 HE HG
      clear hx HD
      have hV := (Below.refl wr.heap.size wr).alloc (Nat.le_refl _) (.cells #[.int .i64 x.off, .string x.rules, .int .i64 x.save, .string x.format, .int .i64 x.until_] 93)
      replace HK := Lib.hid (HK.out.step hV)
      replace HB := Lib.hid (HB.out.trans (hV.mono hz))
      clear hV
      by_cases hq : t < x.until_
      · have HE2 := Lib.hid (HE.out hq)
        clear HE HG
        go_wp2_with fail
        go_ret
        exact ⟨ret_int (by rw [HE2.out]), HB.out⟩
      · have HG2 := Lib.hid (HG.out (by omega))
        clear HE HG
        go_wp2_with fail
        exact ⟨⟨k + 1, by omega, by go_num, HG2, HK, HB⟩, by simp only [intOf]; omega⟩
    · obtain rfl : k = n := by omega
      have HE := Lib.hid (HEnd.out (fun j hj h => HD.out j hj (by rw [HN.out] at h; omega)))
      have kr := HK.out.cell
      have kl := HK.out.lt
      clear HD
      go_wp2_with fail
      go_ret
      exact ⟨ret_int (by rw [HE.out, HN.out]; simp), HB.out⟩
theorem fstL_cons (u : TuT) (l : List TuT) : fstL (u :: l) = if zS u = true then u.2.2 else fstL l := by
  cases h : zS u with
  | true => rw [if_pos rfl]; exact fstL_at (l := u :: l) (k := 0) (by simp) (fun j hj hlt => absurd hlt (by omega)) h
  | false =>
    rw [if_neg (by simp)]
    rcases fstL_ix l with ⟨e1, e2⟩ | ⟨k, hk, e1, e2⟩
    · rw [e2]
      refine fstL_none (fun j hj => ?_)
      cases j with
      | zero => exact h
      | succ j =>
        have hj' : j < l.length := by simpa using hj
        cases hz : zS l[j] with
        | false => simpa using hz
        | true =>
          exfalso
          have h1 := any_idx (p := zS) l 0
          rw [e1] at h1
          have h2 : l.any zS = true := List.any_eq_true.2 ⟨l[j], List.getElem_mem hj', hz⟩
          rw [h2] at h1
          simp at h1
    · rw [e2]
      have hn : ∀ j (hj : j < l.length), j < k → zS l[j] = false := by
        intro j hj hjk
        have ind : ∀ (l : List TuT) (b : Nat) (k : Nat), idxOfF zS l b = ((b + k : Nat) : Int) → ∀ j (hj : j < l.length), j < k → zS l[j] = false := by
          intro l
          induction l with
          | nil => intro b k _ j hj; simp at hj
          | cons v l ih =>
            intro b k h1 j hj hjk
            cases hv : zS v with
            | true => rw [idxOfF, if_pos hv] at h1; omega
            | false =>
              rw [idxOfF, if_neg (by rw [hv]; exact Bool.false_ne_true)] at h1
              cases j with
              | zero => exact hv
              | succ j =>
                have := ih (b + 1) (k - 1) (by rw [h1]; congr 1; omega) j (by simpa using hj) (by omega)
                simpa using this
        exact ind l 0 k (by rw [e1, Nat.zero_add]) j hj hjk
      have hz : zS l[k] = true := by
        have ind : ∀ (l : List TuT) (b : Nat) (k : Nat) (hk : k < l.length), idxOfF zS l b = ((b + k : Nat) : Int) → zS l[k] = true := by
          intro l
          induction l with
          | nil => intro b k hk; simp at hk
          | cons v l ih =>
            intro b k hk h1
            cases hv : zS v with
            | true =>
              rw [idxOfF, if_pos hv] at h1
              obtain rfl : k = 0 := by omega
              exact hv
            | false =>
              rw [idxOfF, if_neg (by rw [hv]; exact Bool.false_ne_true)] at h1
              have hge : 0 ≤ idxOfF zS l (b + 1) := by omega
              have hb : ∀ (l : List TuT) (b : Nat), 0 ≤ idxOfF zS l b → (b : Int) ≤ idxOfF zS l b := by
                intro l
                induction l with
                | nil => intro b h; simp [idxOfF] at h
                | cons v l ih =>
                  intro b h
                  rw [idxOfF] at h ⊢
                  split
                  · omega
                  · rename_i hv; rw [if_neg hv] at h; have := ih (b + 1) h; omega
              have := hb l (b + 1) hge
              cases k with
              | zero => omega
              | succ k =>
                have := ih (b + 1) k (by simpa using hk) (by rw [h1]; congr 1; omega)
                simpa using this
        exact ind l 0 k hk (by rw [e1, Nat.zero_add])
      exact fstL_at (l := u :: l) (k := k + 1) (by simpa using hk) (fun j hj hlt => by
        cases j with
        | zero => exact h
        | succ j => exact hn j (by simpa using hj) (by omega)) hz
/-- the type so far, at k turns -/
def stK (x : ErT) (l : List TuT) (t : Int) (k : Nat) : Int × ByteArray := if min k (tuCount l t) = 0 then (x.save, fstL l) else (l.getD (min k (tuCount l t) - 1) default).2
theorem stK_zero (x : ErT) (l : List TuT) (t : Int) : stK x l t 0 = (x.save, fstL l) := by simp [stK]
theorem stK_all {x : ErT} {l : List TuT} {t : Int} (hs : TuSorted l) : stK x l t l.length = stS x l t := by
  have := (tuCount_spec hs t).1
  unfold stK stS
  rw [Nat.min_eq_right this]
theorem stK_yes {x : ErT} {l : List TuT} {t : Int} (hs : TuSorted l) {k : Nat} (hk : k < l.length) (h : l[k].1 ≤ t) : stK x l t (k + 1) = l[k].2 := by
  obtain ⟨a, b, c⟩ := tuCount_spec hs t
  have hlt : k < tuCount l t := by
    by_cases h1 : k < tuCount l t
    · exact h1
    · have := c k hk (by omega); omega
  unfold stK
  rw [Nat.min_eq_left (by omega), if_neg (by omega), Nat.add_sub_cancel]
  simp [List.getD, hk]
theorem stK_no {x : ErT} {l : List TuT} {t : Int} (hs : TuSorted l) {k : Nat} (hk : k < l.length) (h : ¬ l[k].1 ≤ t) : stK x l t (k + 1) = stK x l t k := by
  obtain ⟨a, b, c⟩ := tuCount_spec hs t
  have hle : tuCount l t ≤ k := by
    by_cases h1 : k < tuCount l t
    · have := b k hk h1; omega
    · omega
  unfold stK
  rw [Nat.min_eq_right (by omega), Nat.min_eq_right hle]
end Go.Proofs.YtanaoohgpdcfjaaGreatDoor
namespace Go.Proofs.YtanaoohgpdcfjaaGreatDoor
open Go.RowKit
set_option linter.unusedVariables false
set_option linter.unusedSimpArgs false
attribute [local go_sem ↓] Go.wp_at_zero Go.wp_at_succ
set_option maxRecDepth 100000 in
set_option maxHeartbeats 8000000 in
theorem r_typeOf (x : ErT) (A : Option Addr) (cap : Nat) (l : List TuT) (t : Int) (w : World) (hA : SlAt w w.heap.size 3 A (l.map tuCells)) (hc : l.length ≤ cap) (hm : cap ≤ maxLen) (hs : TuSorted l) (hn : l.length ≤ 1500) (ho : TuOk l) (hx : 0 ≤ x.save ∧ x.save ≤ 10800) (hx2 : -100000 ≤ x.off ∧ x.off ≤ 100000) (hf : x.format.size ≤ maxLen) (hnil : sEq x.rules eMT = true → l = []) :
    Calls Tryz.prog 46 #[.agg #[.int .i64 x.off, .string x.rules, .int .i64 x.save, .string x.format, .int .i64 x.until_], .slice A l.length cap, .int .i64 t] w fun e w' => e = .returned (.agg #[.int .i64 (typeV x l t).1, .bool (typeV x l t).2.1, .string (typeV x l t).2.2]) ∧ Below w.heap.size w w' := by
  unfold maxLen at hm
  have hb1 := (Below.refl w.heap.size w).alloc (Nat.le_refl _) (.cells #[.int .i64 x.off, .string x.rules, .int .i64 x.save, .string x.format, .int .i64 x.until_] 93)
  have hb2 := hb1.alloc (by rw [size_alloc]; omega) (.cells #[.int .i64 0, .bool false, .string ⟨#[]⟩] 37)
  have k1 := (Blk.new w #[.int .i64 x.off, .string x.rules, .int .i64 x.save, .string x.format, .int .i64 x.until_] 93).alloc (.cells #[.int .i64 0, .bool false, .string ⟨#[]⟩] 37)
  have k2 := Blk.new (w.alloc (.cells #[.int .i64 x.off, .string x.rules, .int .i64 x.save, .string x.format, .int .i64 x.until_] 93)) #[.int .i64 0, .bool false, .string ⟨#[]⟩] 37
  rw [size_alloc] at k2
  have hst := stS_ok (x := x) t hs ho hx
  obtain ⟨W, hW⟩ : ∃ W, (w.alloc (.cells #[.int .i64 x.off, .string x.rules, .int .i64 x.save, .string x.format, .int .i64 x.until_] 93)).alloc (.cells #[.int .i64 0, .bool false, .string ⟨#[]⟩] 37) = W := ⟨_, rfl⟩
  rw [hW] at hb2 k1 k2
  have HA := Lib.hid (fun (V : World) (hb : Below w.heap.size w V) => hA.below hb)
  have HB := Lib.hid hb2
  have HK := Lib.hid k1
  have HT := Lib.hid k2
  have HS := Lib.hid hst
  have HZ := Lib.hid (show stK x l t 0 = (x.save, fstL l) from stK_zero x l t)
  have HAl := Lib.hid (show stK x l t l.length = stS x l t from stK_all hs)
  have HY := Lib.hid (fun (k : Nat) (hk : k < l.length) => stK_yes (x := x) (t := t) hs hk)
  have HNo := Lib.hid (fun (k : Nat) (hk : k < l.length) => stK_no (x := x) (t := t) hs hk)
  have HTV := Lib.hid (show typeV x l t = (x.off + (stS x l t).1, decide (0 < (stS x l t).1), abV x.format (stS x l t).1 (stS x l t).2) from rfl)
  have HNil := Lib.hid hnil
  have HAB := Lib.hid (fun (s : Int) (L : ByteArray) (hl : L.size ≤ maxLen) (V : World) => r_Abbr x.format L s hf hl V)
  have hm2 := mt_em x.rules
  obtain ⟨p, hp⟩ : ∃ p, stS x l t = p := ⟨_, rfl⟩
  obtain ⟨ty, hty⟩ : ∃ ty, typeV x l t = ty := ⟨_, rfl⟩
  rw [hp] at HS HAl HTV
  rw [hty] at HTV ⊢
  obtain ⟨B, hBe⟩ : ∃ B, w.heap.size = B := ⟨_, rfl⟩
  have HBe := Lib.hid hBe
  rw [hBe] at HK HT
  clear hb1 hb2 k1 k2 hst hA hs ho hx hf hnil hp hty
  have kr := HK.out.cell
  have kl := HK.out.lt
  go_enter Tryz.func46, Tryz.ntmps46
  go_upto_if 18 with fail
  clear hW hBe kr kl
  go_cut [7, 8] from 14 (fun v7 v8 wx => v7 = .int .i64 p.1 ∧ v8 = .string p.2 ∧ Hid (Blk wx B 93 #[.int .i64 x.off, .string x.rules, .int .i64 x.save, .string x.format, .int .i64 x.until_]) ∧ Hid (Blk wx (B + 1) 37 #[.int .i64 0, .bool false, .string ⟨#[]⟩]) ∧ Hid (Below w.heap.size w wx))
  case first =>
    cases hE : sEq x.rules eMT with
    | true =>
      have hl0 := HNil.out hE
      subst hl0
      have e := HAl.out
      rw [show ([] : List TuT).length = 0 from rfl, HZ.out, fstL_nil] at e
      rw [hE] at hm2
      simp only [hm2, Bool.not_true]
      subst e
      clear hE hm2
      go_wp2_with fail
      go_meet
      exact ⟨rfl, rfl, HK, HT, HB⟩
    | false =>
      rw [hE] at hm2
      simp only [hm2, Bool.not_false]
      clear hE hm2 HNil
      go_wp2_with fail
      go_loopw [8, 9] (fun L i wr => ∃ k : Nat, k ≤ l.length ∧ i = .int .i64 ((k : Int) - 1) ∧ L = .string (fstL (l.drop k)) ∧ wr = W) (fun _ i _ => (intOf i + 1).toNat)
      case atStart => exact ⟨l.length, Nat.le_refl _, by go_num, by rw [List.drop_length]; rfl, rfl⟩
      case round =>
        obtain ⟨k, hk, rfl, rfl, rfl⟩ := hrel
        by_cases h0 : k = 0
        · subst h0
          rw [List.drop_zero]
          obtain ⟨f, hf⟩ : ∃ f, fstL l = f := ⟨_, rfl⟩
          rw [hf] at HZ ⊢
          clear hf
          go_wp2_with fail
          go_loopw [7, 8, 39] (fun v7 v8 i wr => ∃ (k : Nat) (q : Int × ByteArray), k ≤ l.length ∧ i = .int .i64 k ∧ v7 = .int .i64 q.1 ∧ v8 = .string q.2 ∧ Hid (stK x l t k = q) ∧ Hid (Blk wr B 93 #[.int .i64 x.off, .string x.rules, .int .i64 x.save, .string x.format, .int .i64 x.until_]) ∧ Hid (Blk wr (B + 1) 37 #[.int .i64 0, .bool false, .string ⟨#[]⟩]) ∧ Hid (Below w.heap.size w wr)) (fun _ _ i _ => l.length - (intOf i).toNat)
          case atStart => exact ⟨0, (x.save, f), Nat.zero_le _, rfl, rfl, rfl, HZ, HK, HT, HB⟩
          case round =>
            clear HK HT HB
            obtain ⟨k, ⟨sv, lt⟩, hk, rfl, rfl, rfl, HQ, HK, HT, HB⟩ := hrel
            by_cases hlt : k < l.length
            · obtain ⟨b, o, rfl, hb, c0, c1, c2⟩ := tu_at (HA.out _ HB.out) hlt
              have hz := HB.out.size
              have hbw : b < wr.heap.size := by omega
              have hi1 : (0 : Int) ≤ (k : Int) := by omega
              have hi2 : (k : Int) < (l.length : Int) := by omega
              have HYk := Lib.hid (HY.out k hlt)
              have HNk := Lib.hid (HNo.out k hlt)
              obtain ⟨u, hu⟩ : ∃ u, l[k] = u := ⟨_, rfl⟩
              rw [hu] at c0 c1 c2 HYk HNk
              clear hu
              have hV := (Below.refl wr.heap.size wr).alloc (Nat.le_refl _) (.cells #[.int .i64 u.1, .int .i64 u.2.1, .string u.2.2] 34)
              have HX := Lib.hid (Blk.new wr #[.int .i64 u.1, .int .i64 u.2.1, .string u.2.2] 34)
              replace HK := Lib.hid (HK.out.step hV)
              replace HT := Lib.hid (HT.out.step hV)
              replace HB := Lib.hid (HB.out.trans (hV.mono hz))
              clear hV
              by_cases hq : u.1 ≤ t
              · have HQ2 := Lib.hid (HYk.out hq)
                clear HYk HNk HQ
                go_wp2_with fail
                obtain ⟨V, hV⟩ : ∃ V, wr.alloc (.cells #[.int .i64 u.1, .int .i64 u.2.1, .string u.2.2] 34) = V := ⟨_, rfl⟩
                obtain ⟨g, hg⟩ : ∃ g, wr.heap.size = g := ⟨_, rfl⟩
                rw [hV] at HK HT HB HX ⊢
                rw [hg] at HX ⊢
                clear hV hg c0 c1 c2
                have xc := HX.out.cell
                have xl := HX.out.lt
                go_quiet (fail)
                rename_i nq
                have hVq := below_drewN (Below.refl V.heap.size V) nq
                replace HK := Lib.hid (HK.out.step hVq)
                replace HT := Lib.hid (HT.out.step hVq)
                replace HB := Lib.hid (HB.out.trans (hVq.mono HB.out.size))
                clear hVq xc xl HX
                try go_wp2_with fail
                exact ⟨⟨k + 1, u.2, by omega, by go_num, rfl, rfl, HQ2, HK, HT, HB⟩, by simp only [intOf]; omega⟩
              · have HQ2 := Lib.hid ((HNk.out (by omega)).trans HQ.out)
                clear HYk HNk HQ HX
                go_wp2_with fail
                exact ⟨⟨k + 1, (sv, lt), by omega, by go_num, rfl, rfl, HQ2, HK, HT, HB⟩, by simp only [intOf]; omega⟩
            · obtain rfl : k = l.length := by omega
              have e := HAl.out
              rw [HQ.out] at e
              subst e
              go_wp2_with fail
              go_meet
              exact ⟨rfl, rfl, HK, HT, HB⟩
        · obtain ⟨j, rfl⟩ : ∃ j, k = j + 1 := ⟨k - 1, by omega⟩
          have hj : j < l.length := by omega
          obtain ⟨b, o, rfl, hb, c0, c1, c2⟩ := tu_at (HA.out _ HB.out) hj
          have hi1 : (0 : Int) ≤ (j : Int) := by omega
          have hi2 : (j : Int) < (l.length : Int) := by omega
          have e1 : ((j + 1 : Nat) : Int) - 1 = (j : Int) := by omega
          have e2 : (j : Int) + 1 - 1 = (j : Int) := by omega
          have hwj : IntKind.i64.wrap ((j : Int) - 1) = (j : Int) - 1 := IntWalk.i64_in _ (by omega)
          have HD := Lib.hid (show fstL (l.drop j) = if zS l[j] = true then l[j].2.2 else fstL (l.drop (j + 1)) by rw [List.drop_eq_getElem_cons hj, fstL_cons])
          obtain ⟨u, hu⟩ : ∃ u, l[j] = u := ⟨_, rfl⟩
          rw [hu] at c0 c1 c2 HD
          obtain ⟨f, hf⟩ : ∃ f, fstL (l.drop (j + 1)) = f := ⟨_, rfl⟩
          rw [hf] at HD ⊢
          clear hu hf h0 e2
          rw [e1]
          clear e1
          have hzs : zS u = (u.2.1 == 0) := rfl
          cases hq : zS u with
          | true =>
            rw [hq] at hzs
            have hzs' := hzs.symm
            have HD2 := Lib.hid (show u.2.2 = fstL (l.drop j) by rw [HD.out, if_pos hq])
            clear HD hzs hq
            go_wp2_with fail
            exact ⟨⟨j, by omega, by go_num, by rw [HD2.out], by first | rfl | trivial⟩, by simp only [intOf]; omega⟩
          | false =>
            rw [hq] at hzs
            have hzs' := hzs.symm
            have HD2 := Lib.hid (show f = fstL (l.drop j) by rw [HD.out, if_neg (by rw [hq]; exact Bool.false_ne_true)])
            clear HD hzs hq
            go_wp2_with fail
            exact ⟨⟨j, by omega, by go_num, by rw [HD2.out], by first | rfl | trivial⟩, by simp only [intOf]; omega⟩
  case rest =>
    obtain ⟨sv, lt⟩ := p
    clear HK HT HB HZ HAl HY HNo HNil hm2
    obtain ⟨rfl, rfl, HK, HT, HB⟩ := hcut
    obtain ⟨⟨hsv0, hsv1⟩, hlt⟩ := HS.out
    simp only at hsv0 hsv1 hlt
    have HC := Lib.hid (HAB.out sv lt hlt)
    clear hlt HAB
    have kr := HK.out.cell
    have kl := HK.out.lt
    go_wp2_with fail
    refine (HC.out wc).mono ?_
    rintro e w3 ⟨rfl, hb3⟩
    replace HK := Lib.hid (HK.out.step hb3)
    replace HT := Lib.hid (HT.out.step hb3)
    replace HB := Lib.hid (HB.out.trans (hb3.mono HB.out.size))
    clear hb3 kr kl HC
    have kr := HK.out.cell
    have kl := HK.out.lt
    have tr := HT.out.frz
    have tl := HT.out.lt
    have tc := HT.out.cell
    obtain ⟨ab, hab⟩ : ∃ ab, abV x.format sv lt = ab := ⟨_, rfl⟩
    rw [hab] at HTV ⊢
    clear hab
    have hw1 : IntKind.i64.wrap (x.off + sv) = x.off + sv := IntWalk.i64_in _ (by omega)
    go_wp2_with fail
    have HF := Lib.hid (blk3 HT.out (x := .int .i64 (x.off + sv)) (y := .bool (decide (0 < sv))) (z := .string ab))
    have HBF := Lib.hid (show Below w.heap.size w (((w3.setCell ⟨B + 1, 0, none⟩ (.int .i64 (x.off + sv))).setCell ⟨B + 1, 1, none⟩ (.bool (decide (0 < sv)))).setCell ⟨B + 1, 2, none⟩ (.string ab)) from below3 HB.out (by have := HBe.out; omega))
    obtain ⟨U, hU⟩ : ∃ U, (((w3.setCell ⟨B + 1, 0, none⟩ (.int .i64 (x.off + sv))).setCell ⟨B + 1, 1, none⟩ (.bool (decide (0 < sv)))).setCell ⟨B + 1, 2, none⟩ (.string ab)) = U := ⟨_, rfl⟩
    rw [hU] at HF HBF ⊢
    have hf := HF.out.cell
    exact bodyPost_ret (v := .agg #[.int .i64 (x.off + sv), .bool (decide (0 < sv)), .string ab]) (by simp [results, Tryz.results46, go_sem, hf]) rfl ⟨by rw [HTV.out], HBF.out⟩
end Go.Proofs.YtanaoohgpdcfjaaGreatDoor
namespace Go.Proofs.YtanaoohgpdcfjaaGreatDoor
open Go.RowKit
set_option linter.unusedVariables false
set_option linter.unusedSimpArgs false
attribute [local go_sem ↓] Go.wp_at_zero Go.wp_at_succ
theorem far5 {w : World} {g : Nat} {x y z u v : Value} {a : Addr} (h : g ≠ a.block) : (((((w.setCell ⟨g, 0, none⟩ x).setCell ⟨g, 1, none⟩ y).setCell ⟨g, 2, none⟩ z).setCell ⟨g, 3, none⟩ u).setCell ⟨g, 4, none⟩ v).cell? a = w.cell? a := by
  have n : ∀ i, (⟨g, i, none⟩ : Addr) ≠ a := fun i e => h (by rw [← e])
  rw [World.cell?_setCell_other _ _ _ _ (n 4), World.cell?_setCell_other _ _ _ _ (n 3), World.cell?_setCell_other _ _ _ _ (n 2), World.cell?_setCell_other _ _ _ _ (n 1), World.cell?_setCell_other _ _ _ _ (n 0)]
theorem blk5 {W : World} {b : Nat} {t : TypeId} {u0 u1 u2 u3 u4 x y z u v : Value} (h : Blk W b t #[u0, u1, u2, u3, u4]) : Blk (((((W.setCell ⟨b, 0, none⟩ x).setCell ⟨b, 1, none⟩ y).setCell ⟨b, 2, none⟩ z).setCell ⟨b, 3, none⟩ u).setCell ⟨b, 4, none⟩ v) b t #[x, y, z, u, v] := ((((h.set 0 x).set 1 y).set 2 z).set 3 u).set 4 v
theorem blkfar5 {W : World} {b g : Nat} {t : TypeId} {cs : Array Value} {x y z u v : Value} (h : Blk W b t cs) (hne : b ≠ g) : Blk (((((W.setCell ⟨g, 0, none⟩ x).setCell ⟨g, 1, none⟩ y).setCell ⟨g, 2, none⟩ z).setCell ⟨g, 3, none⟩ u).setCell ⟨g, 4, none⟩ v) b t cs :=
  ((((h.far (a := ⟨g, 0, none⟩) hne x).far (a := ⟨g, 1, none⟩) hne y).far (a := ⟨g, 2, none⟩) hne z).far (a := ⟨g, 3, none⟩) hne u).far (a := ⟨g, 4, none⟩) hne v
theorem below5 {w W : World} {b3 : Nat} {x y z u v : Value} (h : Below w.heap.size w W) (hb : w.heap.size ≤ b3) : Below w.heap.size w (((((W.setCell ⟨b3, 0, none⟩ x).setCell ⟨b3, 1, none⟩ y).setCell ⟨b3, 2, none⟩ z).setCell ⟨b3, 3, none⟩ u).setCell ⟨b3, 4, none⟩ v) :=
  Below.setCell (Below.setCell (Below.setCell (Below.setCell (Below.setCell h (p := ⟨b3, 0, none⟩) hb x) (p := ⟨b3, 1, none⟩) hb y) (p := ⟨b3, 2, none⟩) hb z) (p := ⟨b3, 3, none⟩) hb u) (p := ⟨b3, 4, none⟩) hb v
theorem isTime_st (t : Int) : isTimeB t = decide (stE t = 0) := by
  have h : isTimeB t = dateOk (t / 86400) := by
    unfold isTimeB dateOk
    rw [Bool.eq_iff_iff]
    simp
    omega
  rw [h, stE]
  cases dateOk (t / 86400) <;> simp
end Go.Proofs.YtanaoohgpdcfjaaGreatDoor
