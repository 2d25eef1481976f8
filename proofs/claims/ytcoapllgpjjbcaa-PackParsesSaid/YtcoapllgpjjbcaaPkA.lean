/- Walks of pack.put and of the reference's number. -/
import Derived.Test.YtcoapllgpjjbcaaPkP
import Derived.Test.YtcoapllgpjjbcaaNsD
import Derived.Test.YtcoapllgpjjbcaaNmE
import Derived.RegionTactic
import Derived.WalkArith
import Derived.Deep.Onto
namespace Go.Proofs.Ytcoapllgpjjbcaa
open Go.RowKit
set_option linter.unusedVariables false
attribute [local go_sem ↓] Go.wp_at_zero Go.wp_at_succ
theorem info_byte : (Try.prog.info? 5).map (fun i => (i.zero, i.size, i.bytes)) = some (some (.int .u8 0), 1, 1) := by kernel_rfl
/-- below base nothing turns, nor does a block of other than bytes -/
def PkK (base : Nat) (w w' : World) : Prop := Below base w w' ∧ ∀ g t cs, t ≠ 5 → Blk w g t cs → Blk w' g t cs
theorem PkK.trans {base : Nat} {a b c : World} (h : PkK base a b) (k : PkK base b c) : PkK base a c := ⟨h.1.trans k.1, fun g t cs ht hb => k.2 g t cs ht (h.2 g t cs ht hb)⟩
theorem PkK.refl (base : Nat) (a : World) : PkK base a a := ⟨Below.refl _ _, fun _ _ _ _ h => h⟩
theorem PkK.below {base : Nat} {a b : World} (h : Below a.heap.size a b) (hb : base ≤ a.heap.size) : PkK base a b := ⟨h.mono hb, fun g t cs _ hk => hk.step h⟩
theorem PkK.app {base : Nat} {a b : World} {v : Value} {n : Nat} {xs : List Value} (ho : a.ownsRow base 5 1 v n xs) (hb : base ≤ a.heap.size) (hg : a.grownBy b v.ownBlock) : PkK base a b :=
  ⟨below_app hb ho hg, fun g t cs ht hk => hk.grown hg (hk.own_ne ho ht)⟩
def PutPost (base : Nat) (v0 : Value) (xs : List Value) (n : Int) (m : Nat) (w : World) (e : Ending) (w' : World) : Prop := ∃ v, e = .returned v ∧ w'.ownsRow base 5 1 v (xs.length + m) (xs ++ (beL n m).map byC) ∧ PkK base w w' ∧ (∀ g t cs, Blk w g t cs → v0.ownBlock ≠ some g → Blk w' g t cs)
set_option maxRecDepth 100000 in
set_option maxHeartbeats 2000000 in
theorem p_put (base : Nat) (v : Value) (xs : List Value) (n : Int) (m : Nat) (w : World) (ho : w.ownsRow base 5 1 v xs.length xs) (hb : base ≤ w.heap.size) (hn : 0 ≤ n) (hn2 : n ≤ 18446744073709551615) (hm : m ≤ 8) (hx : xs.length ≤ 100000) :
    Calls Try.prog 18 #[v, .int .u64 n, .int .i64 (m : Int)] w (PutPost base v xs n m w) := by
  obtain ⟨i0, hi0, hz0, hz1, hz2⟩ := info_parts info_byte
  go_enter Try.func18, Try.ntmps18
  go_wp2_with fail
  go_loopw [0, 7] (fun bv iv wr => ∃ j : Nat, j ≤ m ∧ iv = .int .i64 ((j : Int) - 1) ∧ wr.ownsRow base 5 1 bv (xs.length + (m - j)) (xs ++ (beL (n / 256 ^ j) (m - j)).map byC) ∧ PkK base w wr ∧ Hid (∀ g t cs, Blk w g t cs → v.ownBlock ≠ some g → Blk wr g t cs ∧ bv.ownBlock ≠ some g)) (fun _ iv _ => (intOf iv + 1).toNat)
  case atStart => exact ⟨m, Nat.le_refl _, rfl, by simpa [beL] using ho, PkK.refl _ _, Lib.hid (fun g t cs h1 h2 => ⟨h1, h2⟩)⟩
  case round =>
    obtain ⟨j, hj, rfl, hO, hk, HG⟩ := hrel
    have HO := Lib.hid hO
    have HK := Lib.hid hk
    clear hO hk
    by_cases h0 : 0 < j
    · obtain ⟨i, rfl⟩ : ∃ i, j = i + 1 := ⟨j - 1, by omega⟩
      have hs := beL_step n m i (by omega)
      rw [← pow_8 i] at hs
      have HS := Lib.hid (show (beL (n / 256 ^ i) (m - i)).map byC = (beL (n / 256 ^ (i + 1)) (m - (i + 1))).map byC ++ [byC (n / 2 ^ (8 * i) % 256)] by rw [← pow_8 i, hs, List.map_append]; try rfl)
      have HN := Lib.hid (show xs.length + (m - i) = xs.length + (m - (i + 1)) + 1 by omega)
      have hbW : base ≤ wr.heap.size := Nat.le_trans hb HK.out.1.size
      clear hs
      go_wp2_with (at_builtin; refine wpList_append_lies _ rfl _ _ _ rfl base 5 i0 _ 1 1 Try.underlying26 hi0 hz0 hz1 hz2 rfl (by omega) u0 (xs.length + (m - (i + 1))) _ rfl (HO.out.alloc _) ⟨wr.heap.size, 0, none⟩ 1 1 [byC (n / 2 ^ (8 * i) % 256)] rfl rfl (World.news_of_block (cs := #[byC (n / 2 ^ (8 * i) % 256)]) (t := 5) (fr := (0, 0)) (Blk.new' _ _ _ rfl)) (by simp [Value.oneCell', byC]) (by omega) (by unfold maxLen; omega) (by omega) (by simp; omega) (wr.heap.size + 1) (by simp) ?_; intro gg cap3 w9 hown1 hgrow hat hlt6)
      have hk9 : PkK base wr w9 := (PkK.below ((Below.refl _ _).alloc (Nat.le_refl _) _) hbW).trans (PkK.app (HO.out.alloc _) (by simp; omega) hgrow)
      exact ⟨⟨i, by omega, rfl, by rw [HN.out, HS.out, ← List.append_assoc]; exact hown1, HK.out.trans hk9, Lib.hid (fun g t cs h1 h2 => by
        obtain ⟨k1, k2⟩ := HG.out g t cs h1 h2
        refine ⟨(k1.alloc _).grown hgrow k2, fun e => ?_⟩
        have e2 : gg = g := by simpa [Value.ownBlock] using e
        rcases hat with h | h
        · exact k2 (by rw [h, e2])
        · have := k1.lt; omega)⟩, by simp [intOf]⟩
    · obtain rfl : j = 0 := by omega
      go_wp2_with fail
      go_ret
      exact ⟨_, rfl, by simpa using HO.out, HK.out, fun g t cs h1 h2 => (HG.out g t cs h1 h2).1⟩
def numberPost (n : Int) (m : Nat) (w : World) (e : Ending) (w' : World) : Prop := ∃ v, e = .returned v ∧ w'.ownsRow w.heap.size 5 1 v m ((beL n m).map byC) ∧ Below w.heap.size w w'
set_option maxRecDepth 100000 in
set_option maxHeartbeats 2000000 in
theorem r_number : ∀ (m : Nat) (n : Int) (w : World), 0 ≤ n → n ≤ 18446744073709551615 → m ≤ 8 → Calls Try.prog 20 #[.int .u64 n, .int .i64 (m : Int)] w (numberPost n m w)
  | 0, n, w, _, _, _ => by
    go_enter Try.func20, Try.ntmps20
    go_wp2_with fail
    go_ret
    exact ⟨_, rfl, World.ownsRow_nil _ _ _ _, Below.refl _ _⟩
  | m + 1, n, w, hn, hn2, hm => by
    obtain ⟨i0, hi0, hz0, hz1, hz2⟩ := info_parts info_byte
    have HI := Lib.hid (r_number m (n / 256) w (by omega) (by omega) (by omega))
    have hm1 : ((m + 1 : Nat) : Int) - 1 = (m : Int) := by omega
    go_enter Try.func20, Try.ntmps20
    go_wp2_with fail
    refine HI.out.mono ?_
    rintro e w1 ⟨v, rfl, hO, hb⟩
    go_wp2_with (at_builtin; refine wpList_append_lies _ rfl _ _ _ rfl w.heap.size 5 i0 _ 1 1 Try.underlying26 hi0 hz0 hz1 hz2 rfl (by omega) v m _ rfl (hO.alloc _) ⟨w1.heap.size, 0, none⟩ 1 1 [byC (n % 256)] rfl rfl (World.news_of_block (cs := #[byC (n % 256)]) (t := 5) (fr := (0, 0)) (Blk.new' _ _ _ rfl)) (by simp [Value.oneCell', byC]) (by omega) (by unfold maxLen; omega) (by omega) (by have := hb.size; simp; omega) (w1.heap.size + 1) (by simp) ?_; intro gg cap3 w9 hown1 hgrow hat hlt6)
    have hb9 : Below w.heap.size w w9 := (hb.alloc hb.size _).trans (below_app (by have := hb.size; simp; omega) (hO.alloc _) hgrow)
    go_ret
    exact ⟨_, rfl, by rw [beL, List.map_append]; exact hown1, hb9⟩
end Go.Proofs.Ytcoapllgpjjbcaa
