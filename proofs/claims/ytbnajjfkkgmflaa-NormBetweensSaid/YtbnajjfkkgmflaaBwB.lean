/- norm.Between where it finds a fault; the reference's Eq at []api.Span. -/
import Derived.Test.YtbnajjfkkgmflaaBwA
import Derived.Test.YtbnajjfkkgmflaaTabEq
namespace Go.Proofs.Ytbnajjfkkgmflaa
open Go.RowKit
set_option linter.unusedVariables false
set_option linter.unusedSimpArgs false
attribute [local go_sem ↓] Go.wp_at_zero Go.wp_at_succ
theorem sp_at {w : World} {B : Nat} {A : Option Addr} {xs : List Sp} (h : SlAt w B 2 A (xs.map spC)) {k : Nat} (hk : k < xs.length) :
    ∃ b o, A = some ⟨b, o, none⟩ ∧ b < B ∧ w.cell? ⟨b, o + k * 2, none⟩ = some (.int .i64 xs[k].1) ∧ w.cell? ⟨b, o + k * 2 + 1, none⟩ = some (.int .i64 xs[k].2) := by
  obtain ⟨b, o, h1, h2, h3⟩ := h (by simp; omega)
  have e : (xs.map spC).getD k [] = spC xs[k] := by simp [List.getD, hk]
  have h4 := h3 k (by simpa using hk)
  rw [e] at h4
  exact ⟨b, o, h1, h2, h4 0 (by omega), h4 1 (by omega)⟩
set_option maxRecDepth 100000 in
set_option maxHeartbeats 4000000 in
theorem r_EqSp (A C : Option Addr) (ca cc : Nat) (rs : List Sp) (w : World) (hA : SlAt w w.heap.size 2 A (rs.map spC)) (hC : SlAt w w.heap.size 2 C (rs.map spC)) (h1 : rs.length ≤ ca) (h2 : rs.length ≤ cc) (m1 : ca ≤ maxLen) (m2 : cc ≤ maxLen) :
    Calls Try.prog 7 #[.slice A rs.length ca, .slice C rs.length cc] w fun e w' => e = .returned (.bool true) ∧ Below w.heap.size w w' := by
  unfold maxLen at m1 m2
  go_enter Try.func7, Try.ntmps7
  go_wp2_with fail
  go_loopw [14] (fun i wr => ∃ k : Nat, k ≤ rs.length ∧ i = .int .i64 k ∧ Below w.heap.size w wr) (fun i _ => rs.length - (intOf i).toNat)
  case atStart => exact ⟨0, Nat.zero_le _, rfl, Below.refl _ _⟩
  case round =>
    obtain ⟨k, hk, rfl, hB⟩ := hrel
    by_cases hlt : k < rs.length
    · obtain ⟨b, o, rfl, hb, c0, c1⟩ := sp_at (hA.below hB) hlt
      obtain ⟨b2, o2, rfl, hb2, d0, d1⟩ := sp_at (hC.below hB) hlt
      have hz := hB.size
      have hb' : b < wr.heap.size := by omega
      have hb2' : b2 < wr.heap.size := by omega
      have hi1 : (0 : Int) ≤ (k : Int) := by omega
      have hi2 : (k : Int) < (rs.length : Int) := by omega
      obtain ⟨x, hx⟩ : ∃ x, rs[k] = x := ⟨_, rfl⟩
      rw [hx] at c0 c1 d0 d1
      clear hx
      go_wp2_with fail
      go_quiet (fail)
      go_wp2_with fail
      exact ⟨⟨k + 1, by omega, by go_num, below_drewN (hB.alloc hz _) _⟩, by simp [intOf]; omega⟩
    · obtain rfl : k = rs.length := by omega
      go_wp2_with fail
      go_ret
      exact ⟨rfl, hB⟩
set_option maxRecDepth 100000 in
set_option maxHeartbeats 4000000 in
theorem n_Between_bad (A C A2 C2 : Option Addr) (capT capC capT2 capC2 : Nat) (ts : List Ty) (first : Int) (cs : List Ch) (ts2 : List Ty) (first2 : Int) (cs2 : List Ch) (fr te : Int) (w : World) (H : TabAt w A C capT capC ts cs) (H2 : TabAt w A2 C2 capT2 capC2 ts2 cs2) (hE : ¬ bothE ts first cs ts2 first2 cs2 = 0) :
    Calls Try.prog 4 #[.agg #[.slice A ts.length capT, .int .i64 first, .slice C cs.length capC], .agg #[.slice A2 ts2.length capT2, .int .i64 first2, .slice C2 cs2.length capC2], .agg #[.int .i64 fr, .int .i64 te]] w fun e w' => e = .returned (.tuple #[.slice none 0 0, .int .i64 (bothE ts first cs ts2 first2 cs2)]) ∧ Below w.heap.size w w' := by
  have b1 := (Below.refl w.heap.size w).alloc (Nat.le_refl _) (.cells #[.slice A ts.length capT, .int .i64 first, .slice C cs.length capC] 25)
  have x1 := Blk.new w #[.slice A ts.length capT, .int .i64 first, .slice C cs.length capC] 25
  obtain ⟨W1, hW1⟩ : ∃ W1, w.alloc (.cells #[.slice A ts.length capT, .int .i64 first, .slice C cs.length capC] 25) = W1 := ⟨_, rfl⟩
  have hs1 : W1.heap.size = w.heap.size + 1 := by rw [← hW1, size_alloc]
  rw [hW1] at b1 x1
  have b2 := b1.alloc b1.size (.cells #[.slice A2 ts2.length capT2, .int .i64 first2, .slice C2 cs2.length capC2] 25)
  have x2 := Blk.new' W1 #[.slice A2 ts2.length capT2, .int .i64 first2, .slice C2 cs2.length capC2] 25 hs1.symm
  have x1 := x1.alloc (.cells #[.slice A2 ts2.length capT2, .int .i64 first2, .slice C2 cs2.length capC2] 25)
  obtain ⟨W2, hW2⟩ : ∃ W2, W1.alloc (.cells #[.slice A2 ts2.length capT2, .int .i64 first2, .slice C2 cs2.length capC2] 25) = W2 := ⟨_, rfl⟩
  have hs2 : W2.heap.size = w.heap.size + 1 + 1 := by rw [← hW2, size_alloc, hs1]
  rw [hW2] at b2 x1 x2
  have b3 := b2.alloc b2.size (.cells #[.int .i64 fr, .int .i64 te] 27)
  have x3 := Blk.new' W2 #[.int .i64 fr, .int .i64 te] 27 hs2.symm
  have x1 := x1.alloc (.cells #[.int .i64 fr, .int .i64 te] 27)
  have x2 := x2.alloc (.cells #[.int .i64 fr, .int .i64 te] 27)
  obtain ⟨W3, hW3⟩ : ∃ W3, W2.alloc (.cells #[.int .i64 fr, .int .i64 te] 27) = W3 := ⟨_, rfl⟩
  rw [hW3] at b3 x1 x2 x3
  have X1 := Lib.hid x1
  have X2 := Lib.hid x2
  have X3 := Lib.hid x3
  have HB := Lib.hid b3
  have HCk := Lib.hid (n_check A C A2 C2 capT capC capT2 capC2 ts first cs ts2 first2 cs2 W3 (H.below b3) (H2.below b3))
  clear b1 b2 b3 x1 x2 x3
  have h2 : (bothE ts first cs ts2 first2 cs2 != 0) = true := by rw [bne_iff_ne]; exact hE
  have h3 : (bothE ts first cs ts2 first2 cs2 == 0) = false := by rw [beq_eq_false_iff_ne]; exact hE
  clear hE
  go_enter Try.func4, Try.ntmps4
  go_upto_region 1 with fail
  clear hW1 hW2 hW3 hs1 hs2
  have f1 := X1.out.cell
  have f1l := X1.out.lt
  have f2 := X2.out.cell
  have f2l := X2.out.lt
  have f3 := X3.out.cell
  have f3l := X3.out.lt
  go_wp2_with fail
  refine HCk.out.mono ?_
  rintro e w1 ⟨rfl, hb1⟩
  replace X1 := Lib.hid (X1.out.step hb1)
  replace X2 := Lib.hid (X2.out.step hb1)
  replace X3 := Lib.hid (X3.out.step hb1)
  replace HB := Lib.hid (HB.out.trans (hb1.mono HB.out.size))
  clear hb1 f1 f1l f2 f2l f3 f3l
  have f1 := X1.out.cell
  have f1l := X1.out.lt
  have f2 := X2.out.cell
  have f2l := X2.out.lt
  have f3 := X3.out.cell
  have f3l := X3.out.lt
  clear HCk
  go_wp2_with fail
  go_ret2
  exact ⟨rfl, HB.out⟩
set_option maxRecDepth 100000 in
set_option maxHeartbeats 4000000 in
theorem n_Between_sp (A C A2 C2 : Option Addr) (capT capC capT2 capC2 : Nat) (ts : List Ty) (first : Int) (cs : List Ch) (ts2 : List Ty) (first2 : Int) (cs2 : List Ch) (fr te : Int) (w : World) (H : TabAt w A C capT capC ts cs) (H2 : TabAt w A2 C2 capT2 capC2 ts2 cs2) (hE : bothE ts first cs ts2 first2 cs2 = 0) (hsp : ¬ (-1099511627776 ≤ fr ∧ te ≤ 1099511627776 ∧ fr ≤ te)) :
    Calls Try.prog 4 #[.agg #[.slice A ts.length capT, .int .i64 first, .slice C cs.length capC], .agg #[.slice A2 ts2.length capT2, .int .i64 first2, .slice C2 cs2.length capC2], .agg #[.int .i64 fr, .int .i64 te]] w fun e w' => e = .returned (.tuple #[.slice none 0 0, .int .i64 1]) ∧ Below w.heap.size w w' := by
  have b1 := (Below.refl w.heap.size w).alloc (Nat.le_refl _) (.cells #[.slice A ts.length capT, .int .i64 first, .slice C cs.length capC] 25)
  have x1 := Blk.new w #[.slice A ts.length capT, .int .i64 first, .slice C cs.length capC] 25
  obtain ⟨W1, hW1⟩ : ∃ W1, w.alloc (.cells #[.slice A ts.length capT, .int .i64 first, .slice C cs.length capC] 25) = W1 := ⟨_, rfl⟩
  have hs1 : W1.heap.size = w.heap.size + 1 := by rw [← hW1, size_alloc]
  rw [hW1] at b1 x1
  have b2 := b1.alloc b1.size (.cells #[.slice A2 ts2.length capT2, .int .i64 first2, .slice C2 cs2.length capC2] 25)
  have x2 := Blk.new' W1 #[.slice A2 ts2.length capT2, .int .i64 first2, .slice C2 cs2.length capC2] 25 hs1.symm
  have x1 := x1.alloc (.cells #[.slice A2 ts2.length capT2, .int .i64 first2, .slice C2 cs2.length capC2] 25)
  obtain ⟨W2, hW2⟩ : ∃ W2, W1.alloc (.cells #[.slice A2 ts2.length capT2, .int .i64 first2, .slice C2 cs2.length capC2] 25) = W2 := ⟨_, rfl⟩
  have hs2 : W2.heap.size = w.heap.size + 1 + 1 := by rw [← hW2, size_alloc, hs1]
  rw [hW2] at b2 x1 x2
  have b3 := b2.alloc b2.size (.cells #[.int .i64 fr, .int .i64 te] 27)
  have x3 := Blk.new' W2 #[.int .i64 fr, .int .i64 te] 27 hs2.symm
  have x1 := x1.alloc (.cells #[.int .i64 fr, .int .i64 te] 27)
  have x2 := x2.alloc (.cells #[.int .i64 fr, .int .i64 te] 27)
  obtain ⟨W3, hW3⟩ : ∃ W3, W2.alloc (.cells #[.int .i64 fr, .int .i64 te] 27) = W3 := ⟨_, rfl⟩
  rw [hW3] at b3 x1 x2 x3
  have X1 := Lib.hid x1
  have X2 := Lib.hid x2
  have X3 := Lib.hid x3
  have HB := Lib.hid b3
  have HCk := Lib.hid (n_check A C A2 C2 capT capC capT2 capC2 ts first cs ts2 first2 cs2 W3 (H.below b3) (H2.below b3))
  rw [hE] at HCk
  clear b1 b2 b3 x1 x2 x3
  clear hE
  by_cases t1 : -1099511627776 ≤ fr ∧ fr ≤ 1099511627776
  · by_cases t2 : -1099511627776 ≤ te ∧ te ≤ 1099511627776
    · have t3 : te < fr := by omega
      replace t1 := decide_eq_true t1
      replace t2 := decide_eq_true t2
      clear hsp
      go_enter Try.func4, Try.ntmps4
      go_upto_region 1 with fail
      clear hW1 hW2 hW3 hs1 hs2
      have f1 := X1.out.cell
      have f1l := X1.out.lt
      have f2 := X2.out.cell
      have f2l := X2.out.lt
      have f3 := X3.out.cell
      have f3l := X3.out.lt
      go_wp2_with fail
      refine HCk.out.mono ?_
      rintro e w1 ⟨rfl, hb1⟩
      replace X1 := Lib.hid (X1.out.step hb1)
      replace X2 := Lib.hid (X2.out.step hb1)
      replace X3 := Lib.hid (X3.out.step hb1)
      replace HB := Lib.hid (HB.out.trans (hb1.mono HB.out.size))
      clear hb1 f1 f1l f2 f2l f3 f3l
      have f1 := X1.out.cell
      have f1l := X1.out.lt
      have f2 := X2.out.cell
      have f2l := X2.out.lt
      have f3 := X3.out.cell
      have f3l := X3.out.lt
      clear HCk
      go_wp2_with (go_at_call 10; refine (n_isTime _ _).mono ?_; rintro e w' ⟨rfl, rfl⟩)
      go_ret2
      exact ⟨rfl, HB.out⟩
    · replace t1 := decide_eq_true t1
      replace t2 := decide_eq_false t2
      clear hsp
      go_enter Try.func4, Try.ntmps4
      go_upto_region 1 with fail
      clear hW1 hW2 hW3 hs1 hs2
      have f1 := X1.out.cell
      have f1l := X1.out.lt
      have f2 := X2.out.cell
      have f2l := X2.out.lt
      have f3 := X3.out.cell
      have f3l := X3.out.lt
      go_wp2_with fail
      refine HCk.out.mono ?_
      rintro e w1 ⟨rfl, hb1⟩
      replace X1 := Lib.hid (X1.out.step hb1)
      replace X2 := Lib.hid (X2.out.step hb1)
      replace X3 := Lib.hid (X3.out.step hb1)
      replace HB := Lib.hid (HB.out.trans (hb1.mono HB.out.size))
      clear hb1 f1 f1l f2 f2l f3 f3l
      have f1 := X1.out.cell
      have f1l := X1.out.lt
      have f2 := X2.out.cell
      have f2l := X2.out.lt
      have f3 := X3.out.cell
      have f3l := X3.out.lt
      clear HCk
      go_wp2_with (go_at_call 10; refine (n_isTime _ _).mono ?_; rintro e w' ⟨rfl, rfl⟩)
      go_ret2
      exact ⟨rfl, HB.out⟩
  · replace t1 := decide_eq_false t1
    clear hsp
    go_enter Try.func4, Try.ntmps4
    go_upto_region 1 with fail
    clear hW1 hW2 hW3 hs1 hs2
    have f1 := X1.out.cell
    have f1l := X1.out.lt
    have f2 := X2.out.cell
    have f2l := X2.out.lt
    have f3 := X3.out.cell
    have f3l := X3.out.lt
    go_wp2_with fail
    refine HCk.out.mono ?_
    rintro e w1 ⟨rfl, hb1⟩
    replace X1 := Lib.hid (X1.out.step hb1)
    replace X2 := Lib.hid (X2.out.step hb1)
    replace X3 := Lib.hid (X3.out.step hb1)
    replace HB := Lib.hid (HB.out.trans (hb1.mono HB.out.size))
    clear hb1 f1 f1l f2 f2l f3 f3l
    have f1 := X1.out.cell
    have f1l := X1.out.lt
    have f2 := X2.out.cell
    have f2l := X2.out.lt
    have f3 := X3.out.cell
    have f3l := X3.out.lt
    clear HCk
    go_wp2_with (go_at_call 10; refine (n_isTime _ _).mono ?_; rintro e w' ⟨rfl, rfl⟩)
    go_ret2
    exact ⟨rfl, HB.out⟩
end Go.Proofs.Ytbnajjfkkgmflaa
