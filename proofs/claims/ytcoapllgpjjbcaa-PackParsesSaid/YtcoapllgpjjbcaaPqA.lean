/- Walks of the reader's methods, of the reference's fromBytes, and of bytes.Equal. -/
import Derived.Test.YtcoapllgpjjbcaaPqP
import Derived.Test.YtcoapllgpjjbcaaPkA
import Derived.Test.YtcoapllgpjjbcaaEqY
import Derived.Laws.Bits64b
import Derived.Deep.OwnRows
namespace Go.Proofs.Ytcoapllgpjjbcaa
open Go.RowKit
set_option linter.unusedVariables false
attribute [local go_sem ↓] Go.wp_at_zero Go.wp_at_succ
/-- below B nothing has turned, nor any block but g -/
def RdK (B g : Nat) (w w' : World) : Prop := Below B w w' ∧ ∀ k, k < w.heap.size → k ≠ g → w'.heap[k]? = w.heap[k]?
theorem RdK.refl (B g : Nat) (w : World) : RdK B g w w := ⟨Below.refl _ _, fun _ _ _ => rfl⟩
theorem RdK.trans {B g : Nat} {a b c : World} (h : RdK B g a b) (k : RdK B g b c) : RdK B g a c :=
  ⟨h.1.trans k.1, fun i hi hg => (k.2 i (Nat.lt_of_lt_of_le hi h.1.size) hg).trans (h.2 i hi hg)⟩
theorem RdK.below {B g : Nat} {a b : World} (h : Below a.heap.size a b) (hb : B ≤ a.heap.size) : RdK B g a b := ⟨h.mono hb, fun i hi _ => h.block i hi⟩
theorem RdK.alloc {B g : Nat} {a b : World} (h : RdK B g a b) (hb : B ≤ a.heap.size) (o : Obj) : RdK B g a (b.alloc o) := h.trans (RdK.below ((Below.refl _ _).alloc (Nat.le_refl _) _) (Nat.le_trans hb h.1.size))
theorem RdK.drew {B g : Nat} {a b : World} (h : RdK B g a b) : RdK B g a b.drew := ⟨h.1.drew, h.2⟩
theorem RdK.set {B g : Nat} {a b : World} (h : RdK B g a b) (hb : B ≤ g) (i : Nat) (v : Value) : RdK B g a (b.setCell ⟨g, i, none⟩ v) :=
  ⟨h.1.setCell hb _, fun k hk hg => (Below.heap_setCell _ _ _ _ hg).trans (h.2 k hk hg)⟩
theorem RdK.blk {B g k : Nat} {a b : World} {t : TypeId} {cs : Array Value} (h : RdK B g a b) (hk : Blk a k t cs) (hg : k ≠ g) : Blk b k t cs := (h.2 k hk.lt hg).trans hk
theorem RdK.own {B g : Nat} {a b : World} {base e size n : Nat} {v : Value} {xs : List Value} (h : RdK B g a b) (ho : a.ownsRow base e size v n xs) (hg : v.ownBlock ≠ some g) : b.ownsRow base e size v n xs :=
  ⟨ho.1, ho.2.imp id (fun ⟨k, cap, cur, a1, a2, a3, a4⟩ => ⟨k, cap, cur, a1, a2, (h.2 k (lt_of_block a3) (by rintro rfl; exact hg (by rw [a1]; rfl))).trans a3, a4⟩)⟩
/-- a reader at block g: its bytes lie below B -/
def RdAt (w : World) (B g : Nat) (s : RS) : Prop :=
  B ≤ g ∧ Byt s.1 ∧ ∃ A cap, Blk w g 56 #[.slice A s.1.length cap, .bool s.2] ∧ s.1.length ≤ cap ∧ cap ≤ maxLen ∧ SlAt w B 1 A (s.1.map byCells) ∧ (A = none → cap = 0)
def BysPost (B g n : Nat) (s : RS) (w : World) (e : Ending) (w' : World) : Prop :=
  ∃ A cap, e = .returned (.slice A n cap) ∧ n ≤ cap ∧ cap ≤ maxLen ∧ SlAt w' w'.heap.size 1 A ((rdB s n).1.map byCells) ∧ RdAt w' B g (rdB s n).2 ∧ RdK B g w w'
theorem sl_drop {w : World} {B b o : Nat} {l : List Int} (h : SlAt w B 1 (some ⟨b, o, none⟩) (l.map byCells)) (n : Nat) : SlAt w B 1 (some ⟨b, o + n, none⟩) ((l.drop n).map byCells) := by
  intro hn
  rw [List.length_map, List.length_drop] at hn
  obtain ⟨b', o', e, hb, hc⟩ := h (by rw [List.length_map]; omega)
  simp at e
  obtain ⟨rfl, rfl⟩ := e
  refine ⟨b, o + n, rfl, hb, fun i hi j hj => ?_⟩
  rw [List.length_map, List.length_drop] at hi
  have := hc (n + i) (by rw [List.length_map]; omega) j hj
  rw [show o + n + i * 1 + j = o + (n + i) * 1 + j by omega, this]
  simp [List.getD, List.getElem?_map, List.getElem?_drop]
theorem sl_take {w : World} {B : Nat} {A : Option Addr} {l : List Int} (h : SlAt w B 1 A (l.map byCells)) (n : Nat) : SlAt w B 1 A ((l.take n).map byCells) := by
  intro hn
  rw [List.length_map, List.length_take] at hn
  obtain ⟨b, o, e, hb, hc⟩ := h (by rw [List.length_map]; omega)
  refine ⟨b, o, e, hb, fun i hi j hj => ?_⟩
  rw [List.length_map, List.length_take] at hi
  rw [hc i (by rw [List.length_map]; omega) j hj]
  simp [List.getD, List.getElem?_map, show i < n by omega]
theorem sl_zeros (w : World) (n : Nat) (t : TypeId) (xs : Array Value) (h : xs = Array.replicate n (.int .u8 0)) : SlAt (w.alloc (.cells xs t)) (w.alloc (.cells xs t)).heap.size 1 (some ⟨w.heap.size, 0, none⟩) ((List.replicate n (0 : Int)).map byCells) := by
  subst h
  intro hn
  rw [List.length_map, List.length_replicate] at hn
  refine ⟨_, 0, rfl, by simp, fun i hi j hj => ?_⟩
  rw [List.length_map, List.length_replicate] at hi
  obtain rfl : j = 0 := by omega
  rw [cell_new _ _ _ _ _ rfl]
  simp [List.getD, hi, byCells, byC]
theorem or_byte {q c : Int} (h0 : 0 ≤ q) (h1 : q < 72057594037927936) (c0 : 0 ≤ c) (c1 : c ≤ 255) : bits .or .u64 (q * 256) c = q * 256 + c := by
  obtain ⟨a, rfl⟩ : ∃ a : Nat, q = a := ⟨q.toNat, by omega⟩
  obtain ⟨b, rfl⟩ : ∃ b : Nat, c = b := ⟨c.toNat, by omega⟩
  have e := bits_or_u64_nat (a * 256) b (by omega) (by omega)
  have e2 := Nat.two_pow_add_eq_or_of_lt (i := 8) (b := b) (by omega) a
  rw [show 2 ^ 8 * a = a * 256 by omega] at e2
  rw [← e2] at e
  simpa using e
theorem pow_7 {k : Nat} (h : k < 8) : (256 : Int) ^ k ≤ 72057594037927936 := by
  rcases (show k = 0 ∨ k = 1 ∨ k = 2 ∨ k = 3 ∨ k = 4 ∨ k = 5 ∨ k = 6 ∨ k = 7 by omega) with rfl | rfl | rfl | rfl | rfl | rfl | rfl | rfl <;> decide
set_option maxRecDepth 100000 in
set_option maxHeartbeats 2000000 in
theorem p_bytes (B g n : Nat) (s : RS) (w : World) (h : RdAt w B g s) (hn : n ≤ 255) :
    Calls Try.prog 22 #[.pointer (some ⟨g, 0, none⟩), .int .i64 (n : Int)] w (BysPost B g n s w) := by
  obtain ⟨hB, hby, A, cap, hk, h1, h2, hs, ha⟩ := h
  unfold maxLen at h2
  have hkc := hk.cell
  have hkf := hk.frz
  have hkl := hk.lt
  by_cases hlt : n ≤ s.1.length
  · have hlt2 : ¬ (s.1.length : Int) < (n : Int) := by omega
    have e : rdB s n = (s.1.take n, (s.1.drop n, s.2)) := by unfold rdB; rw [if_pos hlt]
    have HK := Lib.hid hk
    have HS := Lib.hid hs
    clear hk hs
    cases A with
    | none =>
      have hc0 := ha rfl
      subst hc0
      have hl0 : s.1.length = 0 := by omega
      obtain rfl : n = 0 := by omega
      go_enter Try.func22, Try.ntmps22
      go_wp2_with fail
      go_ret
      have hnil : s.1 = [] := List.eq_nil_of_length_eq_zero hl0
      exact ⟨none, 0, rfl, Nat.le_refl _, by unfold maxLen; omega, by rw [e]; exact SlAt.none_ _ _ _ _, ⟨hB, by rw [e]; exact hby.drop 0, none, 0, by rw [e]; simp only [hnil]; exact HK.out.set 0 _, by rw [e]; simp [hnil], by unfold maxLen; omega, by rw [e]; simp only [hnil]; exact SlAt.none_ _ _ _ _, fun _ => rfl⟩, (RdK.refl _ _ _).set hB _ _⟩
    | some a =>
      have hn0 : (n : Int) ≤ (cap : Int) := by omega
      by_cases hcap : cap = n
      · subst hcap
        go_enter Try.func22, Try.ntmps22
        go_wp2_with fail
        go_ret
        have hd : s.1.drop cap = [] := List.drop_of_length_le h1
        exact ⟨some a, cap, rfl, Nat.le_refl _, by unfold maxLen; omega, by rw [e]; exact ((sl_take HS.out _).below ((Below.refl _ _).setCell hB _)).more (by simp; omega), ⟨hB, by rw [e]; exact hby.drop _, some a, 0, by rw [e]; simp only [hd]; exact HK.out.set 0 _, by rw [e]; simp [hd], by unfold maxLen; omega, by rw [e]; simp only [hd]; exact SlAt.none_ _ _ _ _, fun _ => rfl⟩, (RdK.refl _ _ _).set hB _ _⟩
      · go_enter Try.func22, Try.ntmps22
        go_wp2_with fail
        go_ret
        have hl : (s.1.drop n).length = s.1.length - n := List.length_drop
        refine ⟨some a, cap, rfl, by omega, by unfold maxLen; omega, by rw [e]; exact ((sl_take HS.out _).below ((Below.refl _ _).setCell hB _)).more (by simp; omega), ⟨hB, by rw [e]; exact hby.drop _, some (a.add n), cap - n, by rw [e]; simp only [hl]; exact HK.out.set 0 _, by rw [e]; simp only [hl]; omega, by unfold maxLen; omega, ?_, fun h => by cases h⟩, (RdK.refl _ _ _).set hB _ _⟩
        rw [e]
        intro hp
        rw [List.length_map, hl] at hp
        obtain ⟨b, o, ea, hb, _⟩ := HS.out (by rw [List.length_map]; omega)
        simp at ea
        subst ea
        rw [show (⟨b, o, none⟩ : Addr).add n = ⟨b, o + n, none⟩ from by simp [Addr.add]]
        exact (sl_drop HS.out n).below ((Below.refl _ _).setCell (p := ⟨g, 0, none⟩) hB _) (by rw [List.length_map, hl]; omega)
  · have hlt2 : (s.1.length : Int) < (n : Int) := by omega
    have e : rdB s n = (List.replicate n 0, ([], true)) := by unfold rdB; rw [if_neg hlt]
    have HK := Lib.hid hk
    have hmk := run_make_row' (P := Try.prog) 26 5 (.int .u8 0) 1 Try.underlying26 info_byte rfl .i64 .i64 n (by omega) (by omega)
    clear hk hs
    go_enter Try.func22, Try.ntmps22
    go_wp2_with fail
    go_ret
    have hz := sl_zeros ((w.setCell ⟨g, 1, none⟩ (.bool true)).setCell ⟨g, 0, none⟩ (.slice none 0 0)) n 5 (madeCells #[.int .u8 0] n) (by apply Array.toList_inj.1; rw [toList_madeCells_one]; simp)
    refine ⟨_, n, rfl, Nat.le_refl _, by unfold maxLen; omega, by rw [e]; simpa using hz, ⟨hB, by rw [e]; exact Byt.nil, none, 0, by rw [e]; exact ((HK.out.set 1 _).set 0 _).alloc _, by rw [e]; simp, by unfold maxLen; omega, by rw [e]; exact SlAt.none_ _ _ _ _, fun _ => rfl⟩, (((RdK.refl _ _ _).set hB _ _).set hB _ _).alloc (by omega) _⟩
set_option maxRecDepth 100000 in
set_option maxHeartbeats 2000000 in
theorem p_number (B g m : Nat) (s : RS) (w : World) (h : RdAt w B g s) (hm : m ≤ 8) :
    Calls Try.prog 21 #[.pointer (some ⟨g, 0, none⟩), .int .i64 (m : Int)] w fun e w' => e = .returned (.int .u64 (rdM s m).1) ∧ RdAt w' B g (rdM s m).2 ∧ RdK B g w w' := by
  have HB := Lib.hid (rdB_byt h.2.1 m).1
  go_enter Try.func21, Try.ntmps21
  go_wp2_with fail
  refine (p_bytes B g m s w h (by omega)).mono ?_
  rintro e w1 ⟨A, cap, rfl, h1, h2, hS, hR, hk⟩
  have HL := Lib.hid (rdB_len s m)
  have HR := Lib.hid (show RdAt w1 B g (rdM s m).2 from hR)
  have HK := Lib.hid hk
  have HE := Lib.hid (show (rdM s m).1 = frB (rdB s m).1 from rfl)
  obtain ⟨l, hl⟩ : ∃ l, (rdB s m).1 = l := ⟨_, rfl⟩
  rw [hl] at HB HL HE hS
  have HS := Lib.hid hS
  unfold maxLen at h2
  clear hR hk hl h hS
  go_wp2_with fail
  go_loopw [4, 11] (fun v i wr => ∃ k : Nat, k ≤ m ∧ i = .int .i64 k ∧ v = .int .u64 (frB (l.take k)) ∧ wr = w1) (fun _ i _ => m - (intOf i).toNat)
  case atStart => exact ⟨0, Nat.zero_le _, rfl, rfl, rfl⟩
  case round =>
    obtain ⟨k, hk, rfl, rfl, rfl⟩ := hrel
    by_cases hlt : k < m
    · have hlt2 : k < l.length := by have := HL.out; omega
      obtain ⟨b, o, rfl, hb, c0⟩ := by_at HS.out hlt2
      have hi1 : (0 : Int) ≤ (k : Int) := by omega
      have hi2 : (k : Int) < (m : Int) := by omega
      have hq := frB_lt HB.out (show k ≤ l.length by omega)
      have hp := pow_7 (show k < 8 by omega)
      have hc := HB.out _ (List.getElem_mem hlt2)
      have HN := Lib.hid (frB_succ hlt2)
      obtain ⟨q, hqe⟩ : ∃ q, frB (l.take k) = q := ⟨_, rfl⟩
      obtain ⟨c, hce⟩ : ∃ c, l[k] = c := ⟨_, rfl⟩
      rw [hqe] at hq HN
      rw [hce] at hc HN c0
      rw [hqe]
      have hsh : IntKind.u64.wrap (q * 256) = q * 256 := IntWalk.u64_in _ (by omega)
      have hcw : IntKind.u64.wrap c = c := IntWalk.u64_in _ (by omega)
      have hor := or_byte hq.1 (by omega) hc.1 hc.2
      clear hqe hce
      go_wp2_with fail
      exact ⟨⟨k + 1, by omega, by go_num, by rw [HN.out], trivial⟩, by simp [intOf]; omega⟩
    · obtain rfl : k = m := by omega
      go_wp2_with fail
      go_ret
      exact ⟨by rw [HE.out, List.take_of_length_le (Nat.le_of_eq HL.out)]; rfl, HR.out, HK.out⟩
set_option maxRecDepth 100000 in
set_option maxHeartbeats 2000000 in
theorem r_fromBytes (A : Option Addr) (cap : Nat) (l : List Int) (w : World) (hS : SlAt w w.heap.size 1 A (l.map byCells)) (hb : Byt l) (hl : l.length ≤ 8) (h1 : l.length ≤ cap) (h2 : cap ≤ maxLen) :
    Calls Try.prog 24 #[.slice A l.length cap] w fun e w' => e = .returned (.int .u64 (frB l)) ∧ w' = w := by
  unfold maxLen at h2
  go_enter Try.func24, Try.ntmps24
  go_wp2_with fail
  go_loopw [3, 8] (fun v i wr => ∃ k : Nat, k ≤ l.length ∧ i = .int .i64 k ∧ v = .int .u64 (frB (l.take k)) ∧ wr = w) (fun _ i _ => l.length - (intOf i).toNat)
  case atStart => exact ⟨0, Nat.zero_le _, rfl, rfl, rfl⟩
  case round =>
    obtain ⟨k, hk, rfl, rfl, rfl⟩ := hrel
    by_cases hlt : k < l.length
    · obtain ⟨b, o, rfl, hb', c0⟩ := by_at hS hlt
      have hi1 : (0 : Int) ≤ (k : Int) := by omega
      have hi2 : (k : Int) < (l.length : Int) := by omega
      have hq := frB_lt hb (show k ≤ l.length by omega)
      have hp := pow_7 (show k < 8 by omega)
      have hc := hb _ (List.getElem_mem hlt)
      have HN := Lib.hid (frB_succ hlt)
      obtain ⟨q, hqe⟩ : ∃ q, frB (l.take k) = q := ⟨_, rfl⟩
      obtain ⟨c, hce⟩ : ∃ c, l[k] = c := ⟨_, rfl⟩
      rw [hqe] at hq HN
      rw [hce] at hc HN c0
      rw [hqe]
      have hsh : IntKind.u64.wrap (256 * q) = 256 * q := IntWalk.u64_in _ (by omega)
      have hcw : IntKind.u64.wrap c = c := IntWalk.u64_in _ (by omega)
      have hsum : IntKind.u64.wrap (256 * q + c) = q * 256 + c := by rw [IntWalk.u64_in _ (by omega)]; omega
      clear hqe hce
      go_wp2_with fail
      exact ⟨⟨k + 1, by omega, by go_num, by rw [HN.out]; try (congr 1; omega), trivial⟩, by simp [intOf]; omega⟩
    · obtain rfl : k = l.length := by omega
      go_wp2_with fail
      go_ret
      exact ⟨by rw [List.take_length]; rfl, rfl⟩
theorem sl_conv {w : World} {B : Nat} {A : Option Addr} {xs : List Int} (h : SlAt w B 1 A (xs.map byCells)) (cap : Nat) :
    (Go.convert 26 9 (.slice A xs.length cap)).run Try.prog w = .ok (.string (strOfNums xs)) w := by
  by_cases hn : 0 < xs.length
  · obtain ⟨b, o, rfl, _, hc⟩ := h (by simpa using hn)
    refine run_convert_bytes_arg w 26 5 Try.underlying26 Try.underlying5 b o xs.length cap xs rfl (fun i hi => ?_) 9 Try.underlying9
    have := hc i (by simpa using hi) 0 (by omega)
    rw [show o + i * 1 + 0 = o + i by omega] at this
    rw [this]
    simp [List.getD, hi, byCells, byC]
  · obtain rfl : xs = [] := List.eq_nil_of_length_eq_zero (by omega)
    rw [run_convert_bytes_string w 26 9 5 _ [].length cap Try.underlying26 Try.underlying5 Try.underlying9]
    cases A <;> simp [Conv.bytesToString, loadCells]
    all_goals rfl
set_option maxRecDepth 100000 in
theorem b_Equal (A A2 : Option Addr) (c1 c2 : Nat) (xs ys : List Int) (w : World) (h1 : SlAt w w.heap.size 1 A (xs.map byCells)) (h2 : SlAt w w.heap.size 1 A2 (ys.map byCells)) :
    Calls Try.prog 23 #[.slice A xs.length c1, .slice A2 ys.length c2] w fun e w' => e = .returned (.bool ((strOfNums xs).toList == (strOfNums ys).toList)) ∧ w' = w := by
  have g1 := sl_conv h1 c1
  have g2 := sl_conv h2 c2
  go_enter Try.func23, Try.ntmps23
  go_wp2_with fail
  go_ret
  exact ⟨rfl, rfl⟩
end Go.Proofs.Ytcoapllgpjjbcaa
