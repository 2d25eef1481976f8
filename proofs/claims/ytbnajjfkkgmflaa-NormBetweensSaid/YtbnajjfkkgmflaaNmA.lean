/- Walks of slices.Index at types, and of the methods of Maker. -/
import Derived.Test.YtbnajjfkkgmflaaBase
import Derived.Test.YtbnajjfkkgmflaaNmP
import Derived.Test.YtbnajjfkkgmflaaOpn
import Derived.Deep.AppendLies
import Derived.Deep.RegionLaw
import Derived.Deep.RegionHeld3
import Derived.Deep.DrawnRows
namespace Go.Proofs.Ytbnajjfkkgmflaa
open Go.RowKit
set_option linter.unusedVariables false
attribute [local go_sem ↓] Go.wp_at_zero Go.wp_at_succ
abbrev tyV (x : Ty) : Value := .agg #[.int .i64 x.1, .bool x.2.1, .string x.2.2]
def ixTy (l : List Ty) (x : Ty) : Int := if numTy l x < l.length then (numTy l x : Int) else -1
theorem ty_ne {x y : Ty} (h : ¬ x = y) : (x.1 == y.1) = false ∨ ((x.1 == y.1) = true ∧ (x.2.1 == y.2.1) = false) ∨ ((x.1 == y.1) = true ∧ (x.2.1 == y.2.1) = true ∧ (x.2.2.toList == y.2.2.toList) = false) := by
  cases h1 : (x.1 == y.1) with
  | false => exact Or.inl rfl
  | true =>
    refine Or.inr ?_
    cases h2 : (x.2.1 == y.2.1) with
    | false => exact Or.inl ⟨rfl, rfl⟩
    | true =>
      refine Or.inr ⟨rfl, rfl, ?_⟩
      cases h3 : (x.2.2.toList == y.2.2.toList) with
      | false => rfl
      | true =>
        have h4 := beq_iff_eq.1 h3
        rw [ByteArray.toList_eq, ByteArray.toList_eq] at h4
        exact absurd (Prod.ext (by simpa using h1) (Prod.ext (by simpa using h2) (ByteArray.ext (Array.toList_inj.1 h4)))) h
set_option maxRecDepth 100000 in
set_option maxHeartbeats 1000000 in
theorem run_eq_ty (x y : Ty) (w : World) : (Op.equalIn 10000 45 (tyV x) (tyV y)).run Try.prog w = .ok (decide (x = y)) w := by
  by_cases h : x = y
  · subst h
    go_simp
  · rw [decide_eq_false h]
    rcases ty_ne h with h1 | ⟨h1, h2⟩ | ⟨h1, h2, h3⟩
    · go_simp
    · go_simp
    · go_simp
theorem ixTy_at {l : List Ty} {x : Ty} {k : Nat} (hk : k < l.length) (h : ∀ j (hj : j < l.length), j < k → ¬ x = l[j]) (e : x = l[k]) : ixTy l x = (k : Int) := by
  have h1 := numTy_at l x k hk h e
  rw [ixTy, h1, if_pos hk]
theorem ixTy_none {l : List Ty} {x : Ty} (h : ∀ j (hj : j < l.length), ¬ x = l[j]) : ixTy l x = -1 := by
  have : ¬ x ∈ l := fun hm => by obtain ⟨j, hj, e⟩ := List.mem_iff_getElem.1 hm; exact h j hj e.symm
  rw [ixTy, if_neg (mt numTy_lt.1 this)]
set_option maxRecDepth 100000 in
set_option maxHeartbeats 1000000 in
theorem s_IndexTy (A : Option Addr) (cap : Nat) (ts : List Ty) (x : Ty) (w : World) (hA : SlAt w w.heap.size 3 A (ts.map tyCells)) (h1 : ts.length ≤ cap) (m1 : cap ≤ maxLen) :
    Calls Try.prog 55 #[.slice A ts.length cap, tyV x] w fun e w' => e = .returned (.int .i64 (ixTy ts x)) ∧ Below w.heap.size w w' := by
  unfold maxLen at m1
  have X1 := Lib.hid (TK.box w #[.int .i64 x.1, .bool x.2.1, .string x.2.2] 45)
  go_enter Try.func55, Try.ntmps55
  go_wp2_with fail
  go_loopw [8] (fun i wr => ∃ k : Nat, k ≤ ts.length ∧ i = .int .i64 k ∧ (∀ j (hj : j < ts.length), j < k → ¬ x = ts[j]) ∧ TK w wr #[.int .i64 x.1, .bool x.2.1, .string x.2.2]) (fun i _ => ts.length - (intOf i).toNat)
  case atStart => exact ⟨0, by omega, rfl, fun j _ h => absurd h (by omega), X1.out⟩
  case round =>
    obtain ⟨k, hk, rfl, hn, hT⟩ := hrel
    have HT := Lib.hid hT
    have HN := Lib.hid hn
    clear hn X1
    by_cases hlt : k < ts.length
    · obtain ⟨b, o, rfl, hb, c0, c1, c2⟩ := ty_at (hA.below hT.2.2) hlt
      have hcs := hT.1
      have hi1 : (0 : Int) ≤ (k : Int) := by omega
      have hi2 : (k : Int) < (ts.length : Int) := by omega
      obtain ⟨y, hy⟩ : ∃ y, ts[k] = y := ⟨_, rfl⟩
      rw [hy] at c0 c1 c2
      clear hT
      by_cases he : x = y
      · have HE := Lib.hid (ixTy_at hlt HN.out (he.trans hy.symm))
        subst he
        clear hy
        go_wp2_with fail
        go_quiet (fail)
        go_wp2_with fail
        go_ret
        exact ⟨ret_int HE.out.symm, (HT.out.drewN _).2.2⟩
      · have HE := Lib.hid (fun j (hj : j < ts.length) (h : j < k + 1) => (show ¬ x = ts[j] from fun e => if h2 : j < k then HN.out j hj h2 e else (by obtain rfl : j = k := (by omega); exact he (e.trans hy))))
        clear hy
        rcases ty_ne he with h1 | ⟨h1, h2⟩ | ⟨h1, h2, h3⟩
        all_goals
          clear he
          go_wp2_with fail
          go_quiet (fail)
          go_wp2_with fail
          exact ⟨⟨k + 1, by omega, by go_num, HE.out, HT.out.drewN _⟩, by simp [intOf]; omega⟩
    · obtain rfl : k = ts.length := by omega
      have HE := Lib.hid (ixTy_none (fun j hj => HN.out j hj hj))
      clear hT
      go_wp2_with fail
      go_ret
      exact ⟨ret_int HE.out.symm, HT.out.2.2⟩
end Go.Proofs.Ytbnajjfkkgmflaa
