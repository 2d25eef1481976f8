/- Walk of (*Maker).number. -/
import Derived.Test.YtbnajjfkkgmflaaNmB
namespace Go.Proofs.Ytbnajjfkkgmflaa
open Go.RowKit
set_option linter.unusedVariables false
attribute [local go_sem ↓] Go.wp_at_zero Go.wp_at_succ
/-- a Maker and a box, kept over a call that makes memory -/
def MS (w W : World) (base m : Nat) (T C : Value) (s : NSt) (cs : Array Value) : Prop := TK w W cs ∧ MkC W base m T C s
abbrev MQ (w W : World) (base m : Nat) (T C : Value) (s : NSt) (cs : Array Value) : Prop :=
  (∀ i, W.cell? ⟨w.heap.size, i, none⟩ = cs[i]?) ∧ (∀ i, W.cell? ⟨m, i, none⟩ = (mkV T C s.last)[i]?) ∧ MS w W base m T C s cs
theorem MQ.mk {w W : World} {base m : Nat} {T C : Value} {s : NSt} {cs : Array Value} (h : TK w W cs) (h2 : MkC W base m T C s) : MQ w W base m T C s cs := ⟨h.1, h2.blk.cell, h, h2⟩
theorem MQ.step {w W W2 : World} {base m : Nat} {T C : Value} {s : NSt} {cs : Array Value} (h : MQ w W base m T C s cs) (hb : Below W.heap.size W W2) : MQ w W2 base m T C s cs := MQ.mk (h.2.2.1.step hb) (h.2.2.2.step hb)
theorem MQ.drew {w W : World} {base m : Nat} {T C : Value} {s : NSt} {cs : Array Value} (h : MQ w W base m T C s cs) : MQ w W.drew base m T C s cs := h.step (Below.refl _ _).drew
def NumPost (base m : Nat) (T C : Value) (s : NSt) (x : Ty) (w : World) (e : Ending) (w' : World) : Prop :=
  ∃ T', e = .returned (.int .i64 (numTy s.ts x : Int)) ∧ MkC w' base m T' C ⟨addTy s.ts x, s.cs, s.last⟩ ∧ Below base w w' ∧ ∀ k, k < w.heap.size → k ≠ m → T.ownBlock ≠ some k → w'.heap[k]? = w.heap[k]?
set_option maxRecDepth 100000 in
set_option maxHeartbeats 2000000 in
theorem m_number_old (base m : Nat) (T C : Value) (s : NSt) (x : Ty) (w : World) (h : MkC w base m T C s) (hx : x ∈ s.ts) :
    Calls Try.prog 45 #[.pointer (some ⟨m, 0, none⟩), tyV x] w (NumPost base m T C s x w) := by
  obtain ⟨A, cap, rfl, h1, h2, hA⟩ := own_at (xss := s.ts.map tyCells) (by simpa using h.hT) (by intro xs hx; obtain ⟨t, _, rfl⟩ := List.mem_map.1 hx; rfl)
  rw [List.length_map] at *
  have hS := MQ.mk (TK.box w #[.int .i64 x.1, .bool x.2.1, .string x.2.2] 45) (h.alloc (.cells #[.int .i64 x.1, .bool x.2.1, .string x.2.2] 45))
  have hr : ixTy s.ts x = (numTy s.ts x : Int) := by rw [ixTy, if_pos (numTy_lt.2 hx)]
  have hE := addTy_old hx
  have hlt := numTy_lt.2 hx
  obtain ⟨r, hrr⟩ : ∃ r, numTy s.ts x = r := ⟨_, rfl⟩
  unfold NumPost
  rw [hrr] at hr hlt ⊢
  rw [hE]
  have hlt' : ¬ ((r : Int) < 0) := by omega
  have HA := Lib.hid hA
  have HB := Lib.hid h
  have HR := Lib.hid hr
  clear hE hA hr h
  go_enter Try.func45, Try.ntmps45
  go_wp2_with fail
  go_region_held3 (fun w' => (∀ i, w'.cell? ⟨w.heap.size, i, none⟩ = (#[.int .i64 x.1, .bool x.2.1, .string x.2.2] : Array Value)[i]?) ∧ (∀ i, w'.cell? ⟨m, i, none⟩ = (mkV (.slice A s.ts.length cap) C s.last)[i]?) ∧ MS w w' base m (.slice A s.ts.length cap) C s #[.int .i64 x.1, .bool x.2.1, .string x.2.2])
    (first | exact MQ.drew hS | assumption | exact MQ.step (by assumption) (by assumption))
    (first | (go_at_call 55; refine (s_IndexTy A cap s.ts x _ ?_ h1 h2).mono ?_; (exact (HA.out.below ((Below.refl _ _).alloc (Nat.le_refl _) _).drew).more (by simp)); rintro e w5 ⟨rfl, hb5⟩))
  rename_i hH
  rw [HR.out]
  go_wp2_with fail
  go_ret
  exact ⟨_, rfl, hH.2.2.2, hH.2.2.1.2.2.mono HB.out.lt, fun k hk _ _ => hH.2.2.1.2.2.block k hk⟩
set_option maxRecDepth 100000 in
set_option maxHeartbeats 2000000 in
theorem m_number_new (base m : Nat) (T C : Value) (s : NSt) (x : Ty) (w : World) (h : MkC w base m T C s) (hx : ¬ x ∈ s.ts) (hl : s.ts.length ≤ 100000) :
    Calls Try.prog 45 #[.pointer (some ⟨m, 0, none⟩), tyV x] w (NumPost base m T C s x w) := by
  obtain ⟨i0, hi0, hz0, hz1, hz2⟩ := info_parts info_Type
  obtain ⟨A, cap, rfl, h1, h2, hA⟩ := own_at (xss := s.ts.map tyCells) (by simpa using h.hT) (by intro xs hx; obtain ⟨t, _, rfl⟩ := List.mem_map.1 hx; rfl)
  rw [List.length_map] at *
  have hS := MQ.mk (TK.box w #[.int .i64 x.1, .bool x.2.1, .string x.2.2] 45) (h.alloc (.cells #[.int .i64 x.1, .bool x.2.1, .string x.2.2] 45))
  have hr : ixTy s.ts x = -1 := by rw [ixTy, if_neg (mt numTy_lt.1 hx)]
  have hE := addTy_new hx
  unfold NumPost
  rw [numTy_none hx, hE]
  have HA := Lib.hid hA
  have HB := Lib.hid h
  have HR := Lib.hid hr
  clear hE hA hr h
  go_enter Try.func45, Try.ntmps45
  go_wp2_with fail
  go_region_held3 (fun w' => (∀ i, w'.cell? ⟨w.heap.size, i, none⟩ = (#[.int .i64 x.1, .bool x.2.1, .string x.2.2] : Array Value)[i]?) ∧ (∀ i, w'.cell? ⟨m, i, none⟩ = (mkV (.slice A s.ts.length cap) C s.last)[i]?) ∧ MS w w' base m (.slice A s.ts.length cap) C s #[.int .i64 x.1, .bool x.2.1, .string x.2.2])
    (first | exact MQ.drew hS | assumption | exact MQ.step (by assumption) (by assumption))
    (first | (go_at_call 55; refine (s_IndexTy A cap s.ts x _ ?_ h1 h2).mono ?_; (exact (HA.out.below ((Below.refl _ _).alloc (Nat.le_refl _) _).drew).more (by simp)); rintro e w5 ⟨rfl, hb5⟩))
  rename_i hH
  rw [HR.out]
  have x0 := hH.1
  have x1 := hH.2.1
  have HM := Lib.hid hH.2.2
  have hmz := HM.out.2.blk.lt
  clear hH hS hb5
  go_wp2_with fail
  go_region_law ((refine step_append_lies _ (by rfl) _ _ _ (by rfl) base 45 i0 _ 3 32 Try.underlying22 hi0 hz0 hz1 hz2 rfl (by omega) (.slice A s.ts.length cap) s.ts.length _ (by rfl) (World.ownsRow.alloc HM.out.2.hT _) ⟨w5.heap.size, 0, none⟩ 1 1 (tyCells x) (by rfl) (by rfl) (World.news_of_block (cs := (tyCells x).toArray) (t := 45) (fr := (0, 0)) (heap_alloc_new w5 _)) (by simp [Value.oneCell', tyCells]) (by omega) (by unfold maxLen; omega) (by omega) (by have := HM.out.2.lt; simp; omega) (w5.heap.size + 1) (by simp) ?_; intro gg cap2 w6 hown1 hgrow hat hlt; have hm6 := Blk.grown' hgrow (HM.out.2.blk.alloc _) (HM.out.2.blk.own_ne HM.out.2.hT (by decide)); have y0 := hm6.cell 0; have y1 := hm6.frz 0; clear hm6))
  all_goals
    have K := mk_app_T (MkC.drew (HM.out.2.alloc (.cells #[.int .i64 x.1, .bool x.2.1, .string x.2.2] 45))) hgrow hown1
    clear y0 y1
    go_wp2_with fail
    go_ret
    refine ⟨_, rfl, K.1, (HM.out.1.2.2.mono HB.out.lt).trans ((((Below.refl _ _).alloc HM.out.2.lt _).drew).trans K.2), fun k hk hkm hkT => ?_⟩
    have hk5 : k < w5.heap.size := Nat.lt_of_lt_of_le hk HM.out.1.2.2.size
    refine (Below.heap_setCell _ _ _ _ hkm).trans ((hgrow.block k ?_ (Ne.symm hkT)).trans ((Below.heap_alloc w5 _ k hk5).trans (HM.out.1.2.2.block k hk)))
    exact Nat.lt_of_lt_of_le hk5 (by simp)
theorem m_number (base m : Nat) (T C : Value) (s : NSt) (x : Ty) (w : World) (h : MkC w base m T C s) (hl : s.ts.length ≤ 100000) :
    Calls Try.prog 45 #[.pointer (some ⟨m, 0, none⟩), tyV x] w (NumPost base m T C s x w) := by
  rcases Classical.em (x ∈ s.ts) with hx | hx
  · exact m_number_old base m T C s x w h hx
  · exact m_number_new base m T C s x w h hx hl
end Go.Proofs.Ytbnajjfkkgmflaa
