/- Walk of the reference's isWord. -/
import Derived.Test.YtgnodiegippkeaaRiA
import Derived.Test.YtgnodiegippkeaaConv
import Derived.Test.YtgnodiegippkeaaCivR
namespace Go.Proofs.Ytgnodiegippkeaa
open Go.RowKit
set_option linter.unusedVariables false
theorem all_snoc (l : List UInt8) (k : Nat) (h : k < l.length) : (l.take (k + 1)).all isLetB = ((l.take k).all isLetB && isLetB l[k]) := by
  rw [List.take_succ_eq_append_getElem h, List.all_append]; simp
theorem all_bad (l : List UInt8) (k : Nat) (h : k < l.length) (hb : isLetB l[k] = false) : l.all isLetB = false := by
  rw [List.all_eq_false]; exact ⟨l[k], List.getElem_mem h, by simp [hb]⟩
theorem let_regions (c : UInt8) : (((97 ≤ c.toNat ∧ c.toNat ≤ 122) ∨ (65 ≤ c.toNat ∧ c.toNat ≤ 90)) ∧ isLetB c = true) ∨ ((c.toNat < 65 ∨ (90 < c.toNat ∧ c.toNat < 97) ∨ 122 < c.toNat) ∧ isLetB c = false) := by
  by_cases h : (97 ≤ c.toNat ∧ c.toNat ≤ 122) ∨ (65 ≤ c.toNat ∧ c.toNat ≤ 90)
  · exact Or.inl ⟨h, isLetB_t h⟩
  · exact Or.inr ⟨by omega, isLetB_f h⟩
set_option maxRecDepth 100000 in
set_option maxHeartbeats 2000000 in
theorem r_isWord (s : ByteArray) (hs : s.size ≤ maxLen) (w : World) :
    Calls Try.prog 65 #[.string s] w fun e w' => e = .returned (.bool (wordB s.data.toList)) ∧ Below w.heap.size w w' := by
  unfold maxLen at hs
  by_cases hsz : 3 ≤ s.size ∧ s.size ≤ 8
  · have HW : Hid (wordB s.data.toList = s.data.toList.all isLetB) := Lib.hid (by rw [wordB, size_len, decide_eq_true hsz, Bool.true_and])
    have hd : decide ((s.size : Int) < 3 ∨ 8 < (s.size : Int)) = false := by simp; omega
    obtain ⟨W1, cap, hrun, hcell, hb1, hz1⟩ := conv_facts w s
    have HC := Lib.hid hcell
    have HZ := Lib.hid hz1
    have HB1 := Lib.hid hb1
    clear hcell hz1 hb1 hsz
    go_enter Try.func65, Try.ntmps65
    go_wp2_with (first | (go_at_call 50; refine (r_outside _ _ _ _).mono ?_; rintro e w' ⟨rfl, rfl⟩))
    clear hrun hd
    go_loopw [11] (fun i wr => ∃ k : Nat, k ≤ s.size ∧ i = .int .i64 k ∧ Hid ((s.data.toList.take k).all isLetB = true) ∧ Hid (Below (w.heap.size + 1) W1 wr)) (fun i _ => s.size - (intOf i).toNat)
    case atStart => exact ⟨0, Nat.zero_le _, rfl, Lib.hid rfl, Lib.hid (Below.refl _ _)⟩
    case round =>
      obtain ⟨k, hk, rfl, HL, HBR⟩ := hrel
      by_cases hlt : k < s.size
      · have hc : wr.cell? ⟨w.heap.size, k, none⟩ = some (.int .u8 ((s.data.toList.getD k 0).toNat : Int)) := by
          rw [HBR.out.cell (by simp)]; exact HC.out k hlt
        obtain ⟨c, hcc⟩ : ∃ c, s.data.toList.getD k 0 = c := ⟨_, rfl⟩
        rw [hcc] at hc
        have HS := Lib.hid (all_snoc s.data.toList k (by simpa using hlt))
        have HB := Lib.hid (all_bad s.data.toList k (by simpa using hlt))
        have HG : Hid (s.data.toList[k]'(by simpa using hlt) = c) := Lib.hid (by rw [← getD_get]; exact hcc)
        clear hcc
        rcases let_regions c with ⟨hb, hI⟩ | ⟨hb, hI⟩
        · have HN : Hid ((s.data.toList.take (k + 1)).all isLetB = true) := Lib.hid (by rw [HS.out, HL.out, HG.out, hI]; rfl)
          clear HL hI
          rcases hb with ⟨hx1, hx2⟩ | ⟨hx1, hx2⟩
          all_goals
            go_wp2_with fail
            exact ⟨⟨k + 1, by omega, by go_num, HN, Lib.hid HBR.out⟩, by simp [intOf]; omega⟩
        · have HN : Hid (wordB s.data.toList = false) := Lib.hid (by rw [HW.out]; exact HB.out (by rw [HG.out, hI]))
          clear HL hI
          rcases hb with hx1 | ⟨hx1, hx2⟩ | hx1
          all_goals
            go_wp2_with fail
            go_ret
            exact ⟨ret_bool HN.out.symm, HB1.out.trans (HBR.out.mono (by omega))⟩
      · obtain rfl : k = s.size := by omega
        have HX : Hid (wordB s.data.toList = true) := Lib.hid (by rw [HW.out]; have := HL.out; rwa [List.take_of_length_le (by simp)] at this)
        clear HL
        go_wp2_with fail
        go_ret
        exact ⟨ret_bool HX.out.symm, HB1.out.trans (HBR.out.mono (by omega))⟩
  · have HX := Lib.hid (show wordB s.data.toList = false by rw [wordB, size_len, decide_eq_false hsz]; rfl)
    have hd : decide ((s.size : Int) < 3 ∨ 8 < (s.size : Int)) = true := by simp; omega
    clear hsz
    go_enter Try.func65, Try.ntmps65
    go_wp2_with (first | (go_at_call 50; refine (r_outside _ _ _ _).mono ?_; rintro e w' ⟨rfl, rfl⟩))
    go_ret
    exact ⟨ret_bool HX.out.symm, Below.refl _ _⟩
theorem ri_split (m k d a : Int) : (riOk m k d a = true ∧ decide (m < 1 ∨ 12 < m) = false ∧ decide (k < 1 ∨ 5 < k) = false ∧ decide (d < 0 ∨ 6 < d) = false ∧ decide (a < 0 ∨ 86400 < a) = false) ∨
    (riOk m k d a = false ∧ (decide (m < 1 ∨ 12 < m) = true ∨ (decide (m < 1 ∨ 12 < m) = false ∧ decide (k < 1 ∨ 5 < k) = true) ∨ (decide (m < 1 ∨ 12 < m) = false ∧ decide (k < 1 ∨ 5 < k) = false ∧ decide (d < 0 ∨ 6 < d) = true) ∨
      (decide (m < 1 ∨ 12 < m) = false ∧ decide (k < 1 ∨ 5 < k) = false ∧ decide (d < 0 ∨ 6 < d) = false ∧ decide (a < 0 ∨ 86400 < a) = true))) := by
  simp only [decide_eq_true_eq, decide_eq_false_iff_not, riOk_iff, riOk_no]
  omega
end Go.Proofs.Ytgnodiegippkeaa
