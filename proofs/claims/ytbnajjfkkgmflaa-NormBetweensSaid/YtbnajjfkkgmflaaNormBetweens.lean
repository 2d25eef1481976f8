/- The law NormBetweens holds at every input: Between answers as the reference does. No condition. -/
import Derived.Test.YtbnajjfkkgmflaaOpn
import Derived.Test.YtbnajjfkkgmflaaNmF
import Derived.Test.YtbnajjfkkgmflaaNsF
import Derived.Test.YtbnajjfkkgmflaaNsB
import Derived.Test.YtbnajjfkkgmflaaBwA
import Derived.Test.YtbnajjfkkgmflaaBwB
import Derived.Test.YtbnajjfkkgmflaaBwR
namespace Go.Proofs.Ytbnajjfkkgmflaa.normBetweens
open Go.ChangeShapes Go.WideShapes Go.ChangeAt Go.RowKit
set_option linter.unusedVariables false
attribute [local go_sem ↓] Go.wp_at_zero Go.wp_at_succ
theorem norm_zero (w : World) : Calls Try.prog 6 #[.agg #[.slice none 0 0, .int .i64 0, .slice none 0 0]] w (NBad 5 w) :=
  n_Norm_bad none none 0 0 [] 0 [] w (TabAt.zero w) (by decide)
theorem bothE_zero {ts1 ts2 : List Ty} {f1 f2 : Int} {cs1 cs2 : List Ch} (h : bothE ts1 f1 cs1 ts2 f2 cs2 = 0) : tabE ts1 f1 cs1 = 0 ∧ tabE ts2 f2 cs2 = 0 := by
  unfold bothE at h
  split at h
  · exact ⟨by assumption, h⟩
  · exact absurd h (by assumption)
theorem _root_.Go.Proofs.Ytbnajjfkkgmflaa.SlAt.step' {w w' : World} {n : Nat} {A : Option Addr} {xs : List (List Value)} (h : SlAt w w.heap.size n A xs) (hb : Below w.heap.size w w') : SlAt w' w'.heap.size n A xs := by
  intro hne
  obtain ⟨b, o, h1, h2, h3⟩ := (h.below hb) hne
  exact ⟨b, o, h1, Nat.lt_of_lt_of_le h2 hb.size, h3⟩
theorem span_at {w : World} {S : List Sp} {v : Value} {B : Nat} (h : w.ownsRow B 27 2 v S.length (S.map spC).flatten) : ∃ A cap, v = .slice A S.length cap ∧ S.length ≤ cap ∧ cap ≤ maxLen ∧ SlAt w w.heap.size 2 A (S.map spC) := by
  have h' : w.ownsRow B 27 2 v (S.map spC).length (S.map spC).flatten := by rw [List.length_map]; exact h
  obtain ⟨A, cap, h1, h2, h3, h4⟩ := own_at h' spC_len
  rw [List.length_map] at h1 h2
  exact ⟨A, cap, h1, h2, h3, h4⟩
set_option maxRecDepth 100000 in
set_option maxHeartbeats 4000000 in
theorem walk_bad (A C A2 C2 : Option Addr) (capT capC capT2 capC2 : Nat) (ts : List Ty) (first : Int) (cs : List Ch) (ts2 : List Ty) (first2 : Int) (cs2 : List Ch) (fr te : Int) (w : World) (H : TabAt w A C capT capC ts cs) (H2 : TabAt w A2 C2 capT2 capC2 ts2 cs2) (hE : ¬ bothE ts first cs ts2 first2 cs2 = 0) :
    Calls Try.prog 3 #[.agg #[.slice A ts.length capT, .int .i64 first, .slice C cs.length capC], .agg #[.slice A2 ts2.length capT2, .int .i64 first2, .slice C2 cs2.length capC2], .agg #[.int .i64 fr, .int .i64 te]] w fun e w' => e = .returned (.bool true) ∧ Below w.heap.size w w' := by
  have b1 := (Below.refl w.heap.size w).alloc (Nat.le_refl _) (.cells #[.slice A ts.length capT, .int .i64 first, .slice C cs.length capC] 25)
  have x1 := Blk.new w #[.slice A ts.length capT, .int .i64 first, .slice C cs.length capC] 25
  obtain ⟨W1, hW1⟩ : ∃ W1, w.alloc (.cells #[.slice A ts.length capT, .int .i64 first, .slice C cs.length capC] 25) = W1 := ⟨_, rfl⟩
  have hs1 : W1.heap.size = w.heap.size + 1 := by rw [← hW1, size_alloc]
  rw [hW1] at b1 x1
  have b2 := b1.alloc b1.size (.cells #[.slice A2 ts2.length capT2, .int .i64 first2, .slice C2 cs2.length capC2] 25)
  have x2 := Blk.new' W1 #[.slice A2 ts2.length capT2, .int .i64 first2, .slice C2 cs2.length capC2] 25 hs1.symm
  have x1 := x1.alloc (.cells #[.slice A2 ts2.length capT2, .int .i64 first2, .slice C2 cs2.length capC2] 25)
  obtain ⟨W2, hW2⟩ : ∃ W2, W1.alloc (.cells #[.slice A2 ts2.length capT2, .int .i64 first2, .slice C2 cs2.length capC2] 25) = W2 := ⟨_, rfl⟩
  have hs2 : W2.heap.size = w.heap.size + 1 + 1 := by rw [← hW2, size_alloc, hs1]
  rw [hW2] at b2 x1 x2
  have b3 := b2.alloc b2.size (.cells #[.int .i64 fr, .int .i64 te] 27)
  have x3 := Blk.new' W2 #[.int .i64 fr, .int .i64 te] 27 hs2.symm
  have x1 := x1.alloc (.cells #[.int .i64 fr, .int .i64 te] 27)
  have x2 := x2.alloc (.cells #[.int .i64 fr, .int .i64 te] 27)
  obtain ⟨W3, hW3⟩ : ∃ W3, W2.alloc (.cells #[.int .i64 fr, .int .i64 te] 27) = W3 := ⟨_, rfl⟩
  rw [hW3] at b3 x1 x2 x3
  have X1 := Lib.hid x1
  have X2 := Lib.hid x2
  have X3 := Lib.hid x3
  have HB := Lib.hid b3
  have HC := Lib.hid (n_Between_bad A C A2 C2 capT capC capT2 capC2 ts first cs ts2 first2 cs2 fr te W3 (H.below b3) (H2.below b3) hE)
  have h2 : (bothE ts first cs ts2 first2 cs2 != 0) = true := by rw [bne_iff_ne]; exact hE
  have h3 : (bothE ts first cs ts2 first2 cs2 == 0) = false := by rw [beq_eq_false_iff_ne]; exact hE
  have h4 : decide (bothE ts first cs ts2 first2 cs2 = 0) = false := decide_eq_false hE
  clear hE
  clear b1 b2 b3 x1 x2 x3
  go_enter Try.func3, Try.ntmps3
  go_upto_region 1 with fail
  clear hW1 hW2 hW3 hs1 hs2
  have f1 := X1.out.cell
  have f1l := X1.out.lt
  have f2 := X2.out.cell
  have f2l := X2.out.lt
  have f3 := X3.out.cell
  have f3l := X3.out.lt
  go_wp2_with fail
  refine HC.out.mono ?_
  rintro e w1 ⟨rfl, hb1⟩
  replace X1 := Lib.hid (X1.out.step hb1)
  replace X2 := Lib.hid (X2.out.step hb1)
  replace X3 := Lib.hid (X3.out.step hb1)
  replace HB := Lib.hid (HB.out.trans (hb1.mono HB.out.size))
  clear hb1 f1 f1l f2 f2l f3 f3l
  have f1 := X1.out.cell
  have f1l := X1.out.lt
  have f2 := X2.out.cell
  have f2l := X2.out.lt
  have f3 := X3.out.cell
  have f3l := X3.out.lt
  clear HC
  go_wp2_with fail
  refine (l_both A C A2 C2 capT capC capT2 capC2 ts first cs ts2 first2 cs2 _ (H.below HB.out) (H2.below HB.out)).mono ?_
  rintro e w2 ⟨rfl, hb2⟩
  replace X1 := Lib.hid (X1.out.step hb2)
  replace X2 := Lib.hid (X2.out.step hb2)
  replace X3 := Lib.hid (X3.out.step hb2)
  replace HB := Lib.hid (HB.out.trans (hb2.mono HB.out.size))
  clear hb2 f1 f1l f2 f2l f3 f3l
  have f1 := X1.out.cell
  have f1l := X1.out.lt
  have f2 := X2.out.cell
  have f2l := X2.out.lt
  have f3 := X3.out.cell
  have f3l := X3.out.lt
  go_wp2_with fail
  refine (norm_zero _).mono ?_
  rintro e w3 ⟨rfl, hb3⟩
  replace X1 := Lib.hid (X1.out.step hb3)
  replace X2 := Lib.hid (X2.out.step hb3)
  replace X3 := Lib.hid (X3.out.step hb3)
  replace HB := Lib.hid (HB.out.trans (hb3.mono HB.out.size))
  clear hb3 f1 f1l f2 f2l f3 f3l
  have f1 := X1.out.cell
  have f1l := X1.out.lt
  have f2 := X2.out.cell
  have f2l := X2.out.lt
  have f3 := X3.out.cell
  have f3l := X3.out.lt
  go_wp2_with fail
  go_ret
  exact ⟨ret_bool (by simp), HB.out.alloc HB.out.size _⟩
set_option maxRecDepth 100000 in
set_option maxHeartbeats 4000000 in
theorem walk_sp (A C A2 C2 : Option Addr) (capT capC capT2 capC2 : Nat) (ts : List Ty) (first : Int) (cs : List Ch) (ts2 : List Ty) (first2 : Int) (cs2 : List Ch) (fr te : Int) (w : World) (H : TabAt w A C capT capC ts cs) (H2 : TabAt w A2 C2 capT2 capC2 ts2 cs2) (hE : bothE ts first cs ts2 first2 cs2 = 0) (hsp : ¬ (-1099511627776 ≤ fr ∧ te ≤ 1099511627776 ∧ fr ≤ te)) :
    Calls Try.prog 3 #[.agg #[.slice A ts.length capT, .int .i64 first, .slice C cs.length capC], .agg #[.slice A2 ts2.length capT2, .int .i64 first2, .slice C2 cs2.length capC2], .agg #[.int .i64 fr, .int .i64 te]] w fun e w' => e = .returned (.bool true) ∧ Below w.heap.size w w' := by
  have b1 := (Below.refl w.heap.size w).alloc (Nat.le_refl _) (.cells #[.slice A ts.length capT, .int .i64 first, .slice C cs.length capC] 25)
  have x1 := Blk.new w #[.slice A ts.length capT, .int .i64 first, .slice C cs.length capC] 25
  obtain ⟨W1, hW1⟩ : ∃ W1, w.alloc (.cells #[.slice A ts.length capT, .int .i64 first, .slice C cs.length capC] 25) = W1 := ⟨_, rfl⟩
  have hs1 : W1.heap.size = w.heap.size + 1 := by rw [← hW1, size_alloc]
  rw [hW1] at b1 x1
  have b2 := b1.alloc b1.size (.cells #[.slice A2 ts2.length capT2, .int .i64 first2, .slice C2 cs2.length capC2] 25)
  have x2 := Blk.new' W1 #[.slice A2 ts2.length capT2, .int .i64 first2, .slice C2 cs2.length capC2] 25 hs1.symm
  have x1 := x1.alloc (.cells #[.slice A2 ts2.length capT2, .int .i64 first2, .slice C2 cs2.length capC2] 25)
  obtain ⟨W2, hW2⟩ : ∃ W2, W1.alloc (.cells #[.slice A2 ts2.length capT2, .int .i64 first2, .slice C2 cs2.length capC2] 25) = W2 := ⟨_, rfl⟩
  have hs2 : W2.heap.size = w.heap.size + 1 + 1 := by rw [← hW2, size_alloc, hs1]
  rw [hW2] at b2 x1 x2
  have b3 := b2.alloc b2.size (.cells #[.int .i64 fr, .int .i64 te] 27)
  have x3 := Blk.new' W2 #[.int .i64 fr, .int .i64 te] 27 hs2.symm
  have x1 := x1.alloc (.cells #[.int .i64 fr, .int .i64 te] 27)
  have x2 := x2.alloc (.cells #[.int .i64 fr, .int .i64 te] 27)
  obtain ⟨W3, hW3⟩ : ∃ W3, W2.alloc (.cells #[.int .i64 fr, .int .i64 te] 27) = W3 := ⟨_, rfl⟩
  rw [hW3] at b3 x1 x2 x3
  have X1 := Lib.hid x1
  have X2 := Lib.hid x2
  have X3 := Lib.hid x3
  have HB := Lib.hid b3
  have HC := Lib.hid (n_Between_sp A C A2 C2 capT capC capT2 capC2 ts first cs ts2 first2 cs2 fr te W3 (H.below b3) (H2.below b3) hE hsp)
  have HE := Lib.hid hE
  clear hE
  clear b1 b2 b3 x1 x2 x3
  go_enter Try.func3, Try.ntmps3
  go_upto_region 1 with fail
  clear hW1 hW2 hW3 hs1 hs2
  have f1 := X1.out.cell
  have f1l := X1.out.lt
  have f2 := X2.out.cell
  have f2l := X2.out.lt
  have f3 := X3.out.cell
  have f3l := X3.out.lt
  go_wp2_with fail
  refine HC.out.mono ?_
  rintro e w1 ⟨rfl, hb1⟩
  replace X1 := Lib.hid (X1.out.step hb1)
  replace X2 := Lib.hid (X2.out.step hb1)
  replace X3 := Lib.hid (X3.out.step hb1)
  replace HB := Lib.hid (HB.out.trans (hb1.mono HB.out.size))
  clear hb1 f1 f1l f2 f2l f3 f3l
  have f1 := X1.out.cell
  have f1l := X1.out.lt
  have f2 := X2.out.cell
  have f2l := X2.out.lt
  have f3 := X3.out.cell
  have f3l := X3.out.lt
  clear HC
  by_cases t1 : fr < -1099511627776
  · have u1 := decide_eq_true t1
    clear hsp
    go_wp2_with fail
    refine (l_both A C A2 C2 capT capC capT2 capC2 ts first cs ts2 first2 cs2 _ (H.below HB.out) (H2.below HB.out)).mono ?_
    rintro e w2 ⟨rfl, hb2⟩
    rw [HE.out]
    replace X1 := Lib.hid (X1.out.step hb2)
    replace X2 := Lib.hid (X2.out.step hb2)
    replace X3 := Lib.hid (X3.out.step hb2)
    replace HB := Lib.hid (HB.out.trans (hb2.mono HB.out.size))
    clear hb2 f1 f1l f2 f2l f3 f3l
    have f1 := X1.out.cell
    have f1l := X1.out.lt
    have f2 := X2.out.cell
    have f2l := X2.out.lt
    have f3 := X3.out.cell
    have f3l := X3.out.lt
    go_wp2_with fail
    refine (norm_zero _).mono ?_
    rintro e w3 ⟨rfl, hb3⟩
    replace X1 := Lib.hid (X1.out.step hb3)
    replace X2 := Lib.hid (X2.out.step hb3)
    replace X3 := Lib.hid (X3.out.step hb3)
    replace HB := Lib.hid (HB.out.trans (hb3.mono HB.out.size))
    clear hb3 f1 f1l f2 f2l f3 f3l
    have f1 := X1.out.cell
    have f1l := X1.out.lt
    have f2 := X2.out.cell
    have f2l := X2.out.lt
    have f3 := X3.out.cell
    have f3l := X3.out.lt
    go_wp2_with fail
    go_ret
    exact ⟨ret_bool (by simp), HB.out.alloc HB.out.size _⟩
  · by_cases t2 : 1099511627776 < te
    · have u1 := decide_eq_false t1
      have u2 := decide_eq_true t2
      clear hsp
      go_wp2_with fail
      refine (l_both A C A2 C2 capT capC capT2 capC2 ts first cs ts2 first2 cs2 _ (H.below HB.out) (H2.below HB.out)).mono ?_
      rintro e w2 ⟨rfl, hb2⟩
      rw [HE.out]
      replace X1 := Lib.hid (X1.out.step hb2)
      replace X2 := Lib.hid (X2.out.step hb2)
      replace X3 := Lib.hid (X3.out.step hb2)
      replace HB := Lib.hid (HB.out.trans (hb2.mono HB.out.size))
      clear hb2 f1 f1l f2 f2l f3 f3l
      have f1 := X1.out.cell
      have f1l := X1.out.lt
      have f2 := X2.out.cell
      have f2l := X2.out.lt
      have f3 := X3.out.cell
      have f3l := X3.out.lt
      go_wp2_with fail
      refine (norm_zero _).mono ?_
      rintro e w3 ⟨rfl, hb3⟩
      replace X1 := Lib.hid (X1.out.step hb3)
      replace X2 := Lib.hid (X2.out.step hb3)
      replace X3 := Lib.hid (X3.out.step hb3)
      replace HB := Lib.hid (HB.out.trans (hb3.mono HB.out.size))
      clear hb3 f1 f1l f2 f2l f3 f3l
      have f1 := X1.out.cell
      have f1l := X1.out.lt
      have f2 := X2.out.cell
      have f2l := X2.out.lt
      have f3 := X3.out.cell
      have f3l := X3.out.lt
      go_wp2_with fail
      go_ret
      exact ⟨ret_bool (by simp), HB.out.alloc HB.out.size _⟩
    · have t3 : te < fr := by omega
      have u1 := decide_eq_false t1
      have u2 := decide_eq_false t2
      have u3 := decide_eq_true t3
      clear hsp
      go_wp2_with fail
      refine (l_both A C A2 C2 capT capC capT2 capC2 ts first cs ts2 first2 cs2 _ (H.below HB.out) (H2.below HB.out)).mono ?_
      rintro e w2 ⟨rfl, hb2⟩
      rw [HE.out]
      replace X1 := Lib.hid (X1.out.step hb2)
      replace X2 := Lib.hid (X2.out.step hb2)
      replace X3 := Lib.hid (X3.out.step hb2)
      replace HB := Lib.hid (HB.out.trans (hb2.mono HB.out.size))
      clear hb2 f1 f1l f2 f2l f3 f3l
      have f1 := X1.out.cell
      have f1l := X1.out.lt
      have f2 := X2.out.cell
      have f2l := X2.out.lt
      have f3 := X3.out.cell
      have f3l := X3.out.lt
      go_wp2_with fail
      refine (norm_zero _).mono ?_
      rintro e w3 ⟨rfl, hb3⟩
      replace X1 := Lib.hid (X1.out.step hb3)
      replace X2 := Lib.hid (X2.out.step hb3)
      replace X3 := Lib.hid (X3.out.step hb3)
      replace HB := Lib.hid (HB.out.trans (hb3.mono HB.out.size))
      clear hb3 f1 f1l f2 f2l f3 f3l
      have f1 := X1.out.cell
      have f1l := X1.out.lt
      have f2 := X2.out.cell
      have f2l := X2.out.lt
      have f3 := X3.out.cell
      have f3l := X3.out.lt
      go_wp2_with fail
      go_ret
      exact ⟨ret_bool (by simp), HB.out.alloc HB.out.size _⟩
set_option maxRecDepth 100000 in
set_option maxHeartbeats 4000000 in
theorem walk_ok (A C A2 C2 : Option Addr) (capT capC capT2 capC2 : Nat) (ts : List Ty) (first : Int) (cs : List Ch) (ts2 : List Ty) (first2 : Int) (cs2 : List Ch) (fr te : Int) (w : World) (H : TabAt w A C capT capC ts cs) (H2 : TabAt w A2 C2 capT2 capC2 ts2 cs2) (hE : bothE ts first cs ts2 first2 cs2 = 0) (hsp : -1099511627776 ≤ fr ∧ te ≤ 1099511627776 ∧ fr ≤ te) :
    Calls Try.prog 3 #[.agg #[.slice A ts.length capT, .int .i64 first, .slice C cs.length capC], .agg #[.slice A2 ts2.length capT2, .int .i64 first2, .slice C2 cs2.length capC2], .agg #[.int .i64 fr, .int .i64 te]] w fun e w' => e = .returned (.bool true) ∧ Below w.heap.size w w' := by
  have K := tabOk (bothE_zero hE).1
  have K2 := tabOk (bothE_zero hE).2
  have b1 := (Below.refl w.heap.size w).alloc (Nat.le_refl _) (.cells #[.slice A ts.length capT, .int .i64 first, .slice C cs.length capC] 25)
  have x1 := Blk.new w #[.slice A ts.length capT, .int .i64 first, .slice C cs.length capC] 25
  obtain ⟨W1, hW1⟩ : ∃ W1, w.alloc (.cells #[.slice A ts.length capT, .int .i64 first, .slice C cs.length capC] 25) = W1 := ⟨_, rfl⟩
  have hs1 : W1.heap.size = w.heap.size + 1 := by rw [← hW1, size_alloc]
  rw [hW1] at b1 x1
  have b2 := b1.alloc b1.size (.cells #[.slice A2 ts2.length capT2, .int .i64 first2, .slice C2 cs2.length capC2] 25)
  have x2 := Blk.new' W1 #[.slice A2 ts2.length capT2, .int .i64 first2, .slice C2 cs2.length capC2] 25 hs1.symm
  have x1 := x1.alloc (.cells #[.slice A2 ts2.length capT2, .int .i64 first2, .slice C2 cs2.length capC2] 25)
  obtain ⟨W2, hW2⟩ : ∃ W2, W1.alloc (.cells #[.slice A2 ts2.length capT2, .int .i64 first2, .slice C2 cs2.length capC2] 25) = W2 := ⟨_, rfl⟩
  have hs2 : W2.heap.size = w.heap.size + 1 + 1 := by rw [← hW2, size_alloc, hs1]
  rw [hW2] at b2 x1 x2
  have b3 := b2.alloc b2.size (.cells #[.int .i64 fr, .int .i64 te] 27)
  have x3 := Blk.new' W2 #[.int .i64 fr, .int .i64 te] 27 hs2.symm
  have x1 := x1.alloc (.cells #[.int .i64 fr, .int .i64 te] 27)
  have x2 := x2.alloc (.cells #[.int .i64 fr, .int .i64 te] 27)
  obtain ⟨W3, hW3⟩ : ∃ W3, W2.alloc (.cells #[.int .i64 fr, .int .i64 te] 27) = W3 := ⟨_, rfl⟩
  rw [hW3] at b3 x1 x2 x3
  have X1 := Lib.hid x1
  have X2 := Lib.hid x2
  have X3 := Lib.hid x3
  have HB := Lib.hid b3
  have HC := Lib.hid (n_Between_ok A C A2 C2 capT capC capT2 capC2 ts first cs ts2 first2 cs2 fr te W3 (H.below b3) (H2.below b3) K K2 hE hsp)
  have HE := Lib.hid hE
  have HK := Lib.hid K
  have HK2 := Lib.hid K2
  have u1 : decide (fr < -1099511627776) = false := decide_eq_false (by omega)
  have u2 : decide (1099511627776 < te) = false := decide_eq_false (by omega)
  have u3 : decide (te < fr) = false := decide_eq_false (by omega)
  clear hE K K2 hsp
  clear b1 b2 b3 x1 x2 x3
  go_enter Try.func3, Try.ntmps3
  go_upto_region 1 with fail
  clear hW1 hW2 hW3 hs1 hs2
  have f1 := X1.out.cell
  have f1l := X1.out.lt
  have f2 := X2.out.cell
  have f2l := X2.out.lt
  have f3 := X3.out.cell
  have f3l := X3.out.lt
  go_wp2_with fail
  refine HC.out.mono ?_
  rintro e w1 ⟨v, P, rfl, hv, hP, hPm, hb1⟩
  replace X1 := Lib.hid (X1.out.step hb1)
  replace X2 := Lib.hid (X2.out.step hb1)
  replace X3 := Lib.hid (X3.out.step hb1)
  replace HB := Lib.hid (HB.out.trans (hb1.mono HB.out.size))
  clear hb1 f1 f1l f2 f2l f3 f3l
  have f1 := X1.out.cell
  have f1l := X1.out.lt
  have f2 := X2.out.cell
  have f2l := X2.out.lt
  have f3 := X3.out.cell
  have f3l := X3.out.lt
  clear HC
  obtain ⟨S, hS⟩ : ∃ S, runP (bwD ts first cs ts2 first2 cs2) P [] = S := ⟨_, rfl⟩
  rw [hS] at hv
  obtain ⟨As, ca, rfl, ha1, ha2, HA⟩ := span_at hv
  replace HA := Lib.hid HA
  have HS := Lib.hid hS
  have HP := Lib.hid hP
  have HPm := Lib.hid hPm
  clear hv hS hP hPm
  go_wp2_with fail
  refine (l_both A C A2 C2 capT capC capT2 capC2 ts first cs ts2 first2 cs2 _ (H.below HB.out) (H2.below HB.out)).mono ?_
  rintro e w2 ⟨rfl, hb2⟩
  rw [HE.out]
  replace HA := Lib.hid (HA.out.step' hb2)
  replace X1 := Lib.hid (X1.out.step hb2)
  replace X2 := Lib.hid (X2.out.step hb2)
  replace X3 := Lib.hid (X3.out.step hb2)
  replace HB := Lib.hid (HB.out.trans (hb2.mono HB.out.size))
  clear hb2 f1 f1l f2 f2l f3 f3l
  have f1 := X1.out.cell
  have f1l := X1.out.lt
  have f2 := X2.out.cell
  have f2l := X2.out.lt
  have f3 := X3.out.cell
  have f3l := X3.out.lt
  go_wp2_with fail
  refine (norm_zero _).mono ?_
  rintro e w3 ⟨rfl, hb3⟩
  replace HA := Lib.hid (HA.out.step' (hb3.alloc hb3.size (.cells #[.slice none 0 0, .int .i64 0, .slice none 0 0] 25)))
  replace X1 := Lib.hid (X1.out.step hb3)
  replace X2 := Lib.hid (X2.out.step hb3)
  replace X3 := Lib.hid (X3.out.step hb3)
  replace HB := Lib.hid (HB.out.trans (hb3.mono HB.out.size))
  clear hb3 f1 f1l f2 f2l f3 f3l
  have f1 := X1.out.cell
  have f1l := X1.out.lt
  have f2 := X2.out.cell
  have f2l := X2.out.lt
  have f3 := X3.out.cell
  have f3l := X3.out.lt
  go_wp2_with fail
  replace HB := Lib.hid (HB.out.alloc HB.out.size (.cells #[.slice none 0 0, .int .i64 0, .slice none 0 0] 25))
  refine (r_Between A C A2 C2 capT capC capT2 capC2 ts first cs ts2 first2 cs2 fr te _ (H.below HB.out) (H2.below HB.out) HK.out HK2.out).mono ?_
  rintro e w4 ⟨v2, O, rfl, hv2, hO, hOm, hb4⟩
  have e2 := runs_meet (bwD ts first cs ts2 first2 cs2) HP.out hO (fun x => (HPm.out x).trans (hOm x).symm)
  rw [HS.out] at e2
  rw [← e2] at hv2
  obtain ⟨A4, c4, rfl, hd1, hd2, HD⟩ := span_at hv2
  replace HA := Lib.hid (HA.out.step' hb4)
  replace HD := Lib.hid HD
  replace HB := Lib.hid (HB.out.trans (hb4.mono HB.out.size))
  clear hv2 e2 hO hOm hb4 HP HPm HS f1 f1l f2 f2l f3 f3l X1 X2 X3
  go_wp2_with fail
  refine (r_EqSp As A4 ca c4 S _ HA.out HD.out ha1 hd1 ha2 hd2).mono ?_
  rintro e w5 ⟨rfl, hb5⟩
  replace HB := Lib.hid (HB.out.trans (hb5.mono HB.out.size))
  clear hb5
  go_wp2_with fail
  go_ret
  exact ⟨ret_bool (by simp), HB.out⟩
theorem walk0 (A C A2 C2 : Option Addr) (capT capC capT2 capC2 : Nat) (ts : List Ty) (first : Int) (cs : List Ch) (ts2 : List Ty) (first2 : Int) (cs2 : List Ch) (fr te : Int) (w : World) (H : TabAt w A C capT capC ts cs) (H2 : TabAt w A2 C2 capT2 capC2 ts2 cs2) :
    Calls Try.prog 3 #[.agg #[.slice A ts.length capT, .int .i64 first, .slice C cs.length capC], .agg #[.slice A2 ts2.length capT2, .int .i64 first2, .slice C2 cs2.length capC2], .agg #[.int .i64 fr, .int .i64 te]] w fun e w' => e = .returned (.bool true) ∧ Below w.heap.size w w' := by
  by_cases hE : bothE ts first cs ts2 first2 cs2 = 0
  · by_cases hsp : -1099511627776 ≤ fr ∧ te ≤ 1099511627776 ∧ fr ≤ te
    · exact walk_ok A C A2 C2 capT capC capT2 capC2 ts first cs ts2 first2 cs2 fr te w H H2 hE hsp
    · exact walk_sp A C A2 C2 capT capC capT2 capC2 ts first cs ts2 first2 cs2 fr te w H H2 hE hsp
  · exact walk_bad A C A2 C2 capT capC capT2 capC2 ts first cs ts2 first2 cs2 fr te w H H2 hE
/-- the law's order of arguments -/
theorem walk (A C : Option Addr) (capT capC : Nat) (ts : List Ty) (first : Int) (cs : List Ch) (A2 C2 : Option Addr) (capT2 capC2 : Nat) (ts2 : List Ty) (first2 : Int) (cs2 : List Ch) (fr te : Int) (w : World) (H : TabAt w A C capT capC ts cs) (H2 : TabAt w A2 C2 capT2 capC2 ts2 cs2) :
    Calls Try.prog 3 #[.agg #[.slice A ts.length capT, .int .i64 first, .slice C cs.length capC], .agg #[.slice A2 ts2.length capT2, .int .i64 first2, .slice C2 cs2.length capC2], .agg #[.int .i64 fr, .int .i64 te]] w fun e w' => e = .returned (.bool true) ∧ Below w.heap.size w w' := by
  exact walk0 A C A2 C2 capT capC capT2 capC2 ts first cs ts2 first2 cs2 fr te w H H2
set_option maxRecDepth 100000 in
theorem lifted (os : Os) (started : os.Started) (H : Type) (enc : TypeId × Value → H) :
    ReturnsInHanded {} Try.checked os 3 .any (Rows.normBetweensSpec.pre6 enc Try.prog Try.f3 Rows.normBetweensRow.domain false) (Rows.normBetweensSpec.post enc Try.prog Try.f3 false true false false) := by
  refine returnsInHanded_of_change (C := Try.checked) own started (by kernel_rfl) Try.func3
    (ChangeSpec.witness6 (enc := enc) (C := Try.checked) false ⟨#[], #[.agg #[.slice none 0 0, .int .i64 0, .slice none 0 0], .agg #[.slice none 0 0, .int .i64 0, .slice none 0 0], .agg #[.int .i64 0, .int .i64 0]], []⟩ 8 (by kernel_rfl) (by kernel_rfl) (by kernel_rfl) (by kernel_rfl)) ?_
  intro W base args ds gs before hval0 hW hcnd _
  have hval : ∀ (j : Nat) t v, Try.f3.params[j]? = some t → args[j]? = some v → Value.okWide Try.prog W .any base t v := hval0
  have hW' := hW
  have hltW : ∀ x ∈ before, x.block < W.heap.size := fun x hx => by simpa using hW.lt x hx
  obtain ⟨p, q, hA0, hV, rfl, hfz, hnd⟩ := hW
  have hlt : ∀ x ∈ p, x.block < W.heap.size := fun x hx => hltW x (by simp [hx])
  clear hltW
  have hA : DataW.TrodAll enc Try.prog W 0 (fun _ => true) true Try.f3.params.toList args.toList ds p := hA0
  rw [Try.params3] at hA hval
  obtain ⟨v0, vs0, d0, ds0, p0, q0, hargs, rfl, rfl, h0, r0⟩ := trodAll_cons hA
  obtain ⟨v1, vs1, d1, ds1, p1, q1, rfl, rfl, rfl, h1, r1⟩ := trodAll_cons r0
  obtain ⟨v2, vs2, d2, ds2, p2, q2, rfl, rfl, rfl, h2, r2⟩ := trodAll_cons r1
  obtain ⟨rfl, rfl, rfl⟩ := trodAll_nil r2
  obtain rfl : args = #[v0, v1, v2] := by cases args; simp_all
  obtain ⟨rfl, rfl⟩ := trodVars_none hV
  obtain ⟨A0, C0, cT0, cC0, ts0, fi0, cs0, rfl, HT0, wf0, wt0, wc0⟩ := val_table (hval 0 25 v0 rfl rfl) h0
  obtain ⟨A1, C1, cT1, cC1, ts1, fi1, cs1, rfl, HT1, wf1, wt1, wc1⟩ := val_table (hval 1 25 v1 rfl rfl) h1
  obtain ⟨fr2, to2, rfl, wi_fr2, wi_to2⟩ := val_span (hval 2 27 v2 rfl rfl) h2
  clear hA0 hval0
  refine (walk A0 C0 cT0 cC0 ts0 fi0 cs0 A1 C1 cT1 cC1 ts1 fi1 cs1 fr2 to2 W HT0 HT1).mono fun e W' ⟨he, hg⟩ => ?_
  subst he
  exact ⟨_, rfl, law_post rfl hW' rfl rfl rfl rfl (by rw [Try.params3]; decide +kernel) hg⟩

/-- the statement -/
theorem proved : Rows.NormBetweensSaid :=
  OpenClaim.holds_of_wide 3 Try.f3 rfl rfl rfl rfl rfl rfl rfl ⟨rfl, rfl, rfl, rfl, rfl⟩ rfl rfl rfl rfl rfl (by kernel_rfl) Try.func3 (by kernel_rfl)
    (of_decide_eq_true (by kernel_rfl)) (by unfold Func.isWrapper; first | (rw [if_pos (by decide +kernel)]; kernel_rfl) | (rw [if_neg (by decide +kernel)]; exact ⟨rfl, rfl⟩))
    (fun os started H enc _ => lifted os started H enc)
end Go.Proofs.Ytbnajjfkkgmflaa.normBetweens
