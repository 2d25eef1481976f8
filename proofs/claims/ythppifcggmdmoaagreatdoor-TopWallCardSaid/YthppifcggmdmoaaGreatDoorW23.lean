/- Part 23 of the proof of TopWall: no condition; what its declarations say stands at each. -/
import Derived.Test.YthppifcggmdmoaaGreatDoorW09
import Derived.Test.YthppifcggmdmoaaGreatDoorW18
import Derived.Test.YthppifcggmdmoaaGreatDoorW21
import Derived.Test.YthppifcggmdmoaaGreatDoorW07
import Derived.Deep.RegionHeld3
import Derived.Lib.SmallJoins
import Derived.Deep.Cut
import Derived.Deep.DrawnRows
namespace Go.Proofs.YthppifcggmdmoaaGreatDoor
open Go.RowKit
set_option linter.unusedVariables false
set_option linter.unusedSimpArgs false
attribute [local go_sem ↓] Go.wp_at_zero Go.wp_at_succ
theorem join_cells (V : World) (xs : List ByteArray) (t : TypeId) : ∀ (j : Nat) x, xs[j]? = some x → (V.alloc (.cells (xs.map Value.string).toArray t)).cell? ⟨V.heap.size, 0 + j, none⟩ = some (.string x) := by
 intro j x h
 rw [Nat.zero_add, cell_new _ _ _ _ _ rfl]; simp [h]
def bL (b : Nat) : UInt8 := if b = 0 then 32 else if b = 1 then 115 else 117
def TrimIn (w : World) : Prop := ∀ W, Below w.heap.size w W → ∀ (b : Nat) (s : ByteArray), b ≤ 2 → s.data.toList = [bL b] → Calls Tryz.prog 143 #[.string s] W fun e w' => e = .returned (.string (byT b)) ∧ Below W.heap.size W w'
theorem TrimIn.on {w w' : World} (H : TrimIn w) (hb : Below w.heap.size w w') : TrimIn w' := fun W hW => H W (hb.trans (hW.mono hb.size))
theorem trim_tab (w : World) (ht : Lib.TabIs Tryz.prog w "strings.asciiSpace" .u8 Lib.asciiSpaceTab) : TrimIn w := by
 intro W hb b s hb2 hs
 have hz : s.size = 1 := by have h1 := congrArg List.length hs; have h2 : s.data.toList.length = s.size := Array.length_toList; rw [h2] at h1; exact h1
 refine (Tryz.strings_TrimSpace s W (by omega) (fun j c hj => ?_) (Lib.tabBelow_of_tabIs ht W hb)).mono ?_
 ·rw [hs] at hj
  match j with
  | 0 =>
   simp only [List.getElem?_cons_zero, Option.some.injEq] at hj
   subst hj; unfold bL; split
   ·decide
   ·split <;> decide
  | j + 1 => simp at hj
 ·rintro e w' ⟨rfl, rfl⟩
  refine ⟨?_, Go.Joins.below_bytesWorld _ _ _ _ (Nat.le_refl _)⟩
  rw [hs]
  have hb3 : b = 0 ∨ b = 1 ∨ b = 2 := by omega
  rcases hb3 with rfl | rfl | rfl <;> rfl
theorem ret_sx {a c : ByteArray} {b d : Int} (h : a = c) (g : b = d) : Ending.returned (.tuple #[.string a, .int .i64 b]) = .returned (.tuple #[.string c, .int .i64 d]) := by rw [h, g]
set_option maxRecDepth 100000 in
set_option maxHeartbeats 1000000 in
theorem u_Text_no (name letter : ByteArray) (f t m k wd n a b sv : Int) (hn : name.size ≤ maxLen) (hl : letter.size ≤ maxLen) (w : World) (n0 : Int) (h : ruleE name letter f t m k wd n a b sv = n0) (h0 : n0 ≠ 0) :
  Calls Tryz.prog 96 #[.agg #[.string name, .int .i64 f, .int .i64 t, .int .i64 m, .int .i64 k, .int .i64 wd, .int .i64 n, .int .i64 a, .int .i64 b, .int .i64 sv, .string letter]] w fun e w' => e = .returned (.tuple #[.string ⟨#[]⟩, .int .i64 n0]) ∧ Below w.heap.size w w' := by
 have X1 := TK.box w #[.string name, .int .i64 f, .int .i64 t, .int .i64 m, .int .i64 k, .int .i64 wd, .int .i64 n, .int .i64 a, .int .i64 b, .int .i64 sv, .string letter] 70
 have HC := Lib.hid (u_Check name letter f t m k wd n a b sv hn hl (w.alloc (.cells #[.string name, .int .i64 f, .int .i64 t, .int .i64 m, .int .i64 k, .int .i64 wd, .int .i64 n, .int .i64 a, .int .i64 b, .int .i64 sv, .string letter] 70)))
 rw [h] at HC
 have hcs := X1.1
 have HB := Lib.hid X1.2.2
 have hn0 : (n0 != 0) = true := by rw [bne_iff_ne]; exact h0
 clear X1 h h0
 go_enter Tryz.func96, Tryz.ntmps96
 go_wp2_with fail
 refine HC.out.mono ?_
 rintro e w1 ⟨rfl, hb1⟩
 go_wp2_with fail
 go_ret2
 exact ⟨rfl, HB.out.trans (hb1.mono HB.out.size)⟩
set_option maxRecDepth 100000 in
set_option maxHeartbeats 4000000 in
theorem u_Text_ok (name letter : ByteArray) (F T M : Nat) (k wd n a sv : Int) (b : Nat) (hn : name.size ≤ maxLen) (hl : letter.size ≤ maxLen) (h : ruleE name letter F T M k wd n a b sv = 0) (w : World) (HI : ∀ y : Nat, y < 10000 → ItoaIn w y) (HT : TrimIn w) :
  Calls Tryz.prog 96 #[.agg #[.string name, .int .i64 (F : Int), .int .i64 (T : Int), .int .i64 (M : Int), .int .i64 k, .int .i64 wd, .int .i64 n, .int .i64 a, .int .i64 (b : Int), .int .i64 sv, .string letter]] w fun e w' => e = .returned (.tuple #[.string (rxT name letter F T M k wd n a b sv), .int .i64 0]) ∧ Below w.heap.size w w' := by
 obtain ⟨z1, z2, ⟨f1, f2, f3, f4, f5, f6⟩, hd, a1, a2, b1, b2, s1, s2⟩ := rule_ok h
 have hdE : dcE k wd n = 0 := dcE_ok hd
 have X1 := TK.box w #[.string name, .int .i64 (F : Int), .int .i64 (T : Int), .int .i64 (M : Int), .int .i64 k, .int .i64 wd, .int .i64 n, .int .i64 a, .int .i64 (b : Int), .int .i64 sv, .string letter] 70
 have HC := Lib.hid (u_Check name letter F T M k wd n a b sv hn hl (w.alloc (.cells #[.string name, .int .i64 (F : Int), .int .i64 (T : Int), .int .i64 (M : Int), .int .i64 k, .int .i64 wd, .int .i64 n, .int .i64 a, .int .i64 (b : Int), .int .i64 sv, .string letter] 70)))
 rw [h] at HC
 have hcs := X1.1
 have hcz := X1.2.1
 have HB0 := Lib.hid X1.2.2
 have ZF := dg_sz (n := F) (by omega)
 have ZT := dg_sz (n := T) (by omega)
 have ZM := dg_sz (n := M) (by omega)
 have ZO := dt_sz k wd n
 have ZA := sp_sz a
 have ZS := sp_sz sv
 have ZB := by_sz b
 have spa : spE a = 0 := by unfold spE; rw [if_pos (spOk_iff.2 ⟨by omega, by omega⟩)]
 have sps : spE sv = 0 := by unfold spE; rw [if_pos (spOk_iff.2 ⟨by omega, by omega⟩)]
 have HRx := Lib.hid (show rxT name letter F T M k wd n a b sv = rxW name ⟨(Lib.decDigits F).toArray⟩ ⟨(Lib.decDigits T).toArray⟩ ⟨(Lib.decDigits M).toArray⟩ (dtV k wd n) (spV a) (byT b) (spV sv) letter from rfl)
 have HD := Lib.hid (fun V => d_Text k wd n V)
 have HA := Lib.hid (fun (V : World) (hb : Below w.heap.size w V) => k_Span a V ((HI (a.natAbs / 3600) (by omega)).on hb))
 have HS := Lib.hid (fun (V : World) (hb : Below w.heap.size w V) => k_Span sv V ((HI (sv.natAbs / 3600) (by omega)).on hb))
 have IF := Lib.hid (fun (V : World) (hb : Below w.heap.size w V) => HI F (by omega) V hb)
 have IT := Lib.hid (fun (V : World) (hb : Below w.heap.size w V) => HI T (by omega) V hb)
 have IM := Lib.hid (fun (V : World) (hb : Below w.heap.size w V) => HI M (by omega) V hb)
 have TR := Lib.hid (fun (V : World) (hb : Below w.heap.size w V) (s : ByteArray) (hs : s.data.toList = [bL b]) => HT V hb b s (by omega) hs)
 rw [spa] at HA
 rw [sps] at HS
 rw [hdE] at HD
 obtain ⟨DF, hDF⟩ : ∃ x, (⟨(Lib.decDigits F).toArray⟩ : ByteArray) = x := ⟨_, rfl⟩
 simp only [hDF] at ZF HRx IF
 obtain ⟨DT, hDT⟩ : ∃ x, (⟨(Lib.decDigits T).toArray⟩ : ByteArray) = x := ⟨_, rfl⟩
 simp only [hDT] at ZT HRx IT
 obtain ⟨DM, hDM⟩ : ∃ x, (⟨(Lib.decDigits M).toArray⟩ : ByteArray) = x := ⟨_, rfl⟩
 simp only [hDM] at ZM HRx IM
 obtain ⟨ON, hON⟩ : ∃ x, dtV k wd n = x := ⟨_, rfl⟩
 simp only [hON] at ZO HRx HD
 obtain ⟨AT, hAT⟩ : ∃ x, spV a = x := ⟨_, rfl⟩
 simp only [hAT] at ZA HRx HA
 obtain ⟨SV, hSV⟩ : ∃ x, spV sv = x := ⟨_, rfl⟩
 simp only [hSV] at ZS HRx HS
 obtain ⟨BY, hBY⟩ : ∃ x, byT b = x := ⟨_, rfl⟩
 simp only [hBY] at ZB HRx TR
 clear hDF hDT hDM hON hAT hSV hBY X1 h hd hdE spa sps HI HT
 have q0 : ¬ 9223372036854775807 < AT.size + BY.size := by omega
 go_enter Tryz.func96, Tryz.ntmps96
 go_wp2_with fail
 refine HC.out.mono ?_
 rintro e w1 ⟨rfl, hb1⟩
 have c1 := fun i => (hb1.cell (p := ⟨w.heap.size, i, none⟩) hcz).trans (hcs i)
 have n1 := Nat.lt_of_lt_of_le hcz hb1.size
 have HB1 := Lib.hid (HB0.out.trans (hb1.mono HB0.out.size))
 clear hcs hcz hb1 HB0 HC
 go_wp2_with fail
 refine (HD.out w1).mono ?_
 rintro e w2 ⟨rfl, hb2⟩
 have c2 := fun i => (hb2.cell (p := ⟨w.heap.size, i, none⟩) n1).trans (c1 i)
 have n2 := Nat.lt_of_lt_of_le n1 hb2.size
 have HB2 := Lib.hid (HB1.out.trans (hb2.mono HB1.out.size))
 clear c1 n1 hb2 HB1 HD
 go_wp2_with fail
 refine (HA.out w2 HB2.out).mono ?_
 rintro e w3 ⟨rfl, hb3⟩
 have c3 := fun i => (hb3.cell (p := ⟨w.heap.size, i, none⟩) n2).trans (c2 i)
 have n3 := Nat.lt_of_lt_of_le n2 hb3.size
 have HB3 := Lib.hid (HB2.out.trans (hb3.mono HB2.out.size))
 clear c2 n2 hb3 HB2 HA
 go_wp2_with fail
 refine (HS.out w3 HB3.out).mono ?_
 rintro e w4 ⟨rfl, hb4⟩
 have c4 := fun i => (hb4.cell (p := ⟨w.heap.size, i, none⟩) n3).trans (c3 i)
 have n4 := Nat.lt_of_lt_of_le n3 hb4.size
 have HB4 := Lib.hid (HB3.out.trans (hb4.mono HB3.out.size))
 clear c3 n3 hb4 HB3 HS
 go_upto_region 7 with fail
 have hb3 : b = 0 ∨ b = 1 ∨ b = 2 := by omega
 rcases hb3 with rfl | rfl | rfl
 ·skip
  refine wp_region_noPanic ?_
  refine wp_region_held_drew (S := fun W' : World => Below w4.heap.size w4 W') (by kernel_rfl) (Below.refl _ _).drew (fun hHeld0 => ?_)
  have hHeld : Below w4.heap.size w4 w4.drew := hHeld0
  clear hHeld0
  refine wpAnyH_take (i := 0) (v := ?_) rfl (by kernel_rfl) (by kernel_rfl) (by kernel_rfl) (fun _ _ _ h => h) (Or.inl ⟨by rfl, ?_⟩) hHeld ?_
  rotate_left
  ·intro wq hSw
   have qb := fun i => (hSw.cell (p := ⟨w.heap.size, i, none⟩) n4).trans (c4 i)
   go_simp
   try with_reducible rfl
  try simp only [Act.put, List.getElem_toArray, List.getElem_cons_succ, List.getElem_cons_zero, List.setIfInBounds_toArray, List.set_cons_zero, List.set_cons_succ]
  refine wpAnyH_take (i := 1) (v := ?_) rfl (by kernel_rfl) (by kernel_rfl) (by kernel_rfl) (fun _ _ _ h => h) (Or.inl ⟨by rfl, ?_⟩) hHeld ?_
  rotate_left
  ·intro wq hSw
   have qb := fun i => (hSw.cell (p := ⟨w.heap.size, i, none⟩) n4).trans (c4 i)
   go_simp
   try with_reducible rfl
  try simp only [Act.put, List.getElem_toArray, List.getElem_cons_succ, List.getElem_cons_zero, List.setIfInBounds_toArray, List.set_cons_zero, List.set_cons_succ]
  refine wpAnyH_take (i := 2) (v := ?_) rfl (by kernel_rfl) (by kernel_rfl) (by kernel_rfl) (fun _ _ _ h => h) (Or.inl ⟨by rfl, ?_⟩) hHeld ?_
  rotate_left
  ·intro wq hSw
   have qb := fun i => (hSw.cell (p := ⟨w.heap.size, i, none⟩) n4).trans (c4 i)
   go_simp
   try with_reducible rfl
  try simp only [Act.put, List.getElem_toArray, List.getElem_cons_succ, List.getElem_cons_zero, List.setIfInBounds_toArray, List.set_cons_zero, List.set_cons_succ]
  refine wpAnyH_take (i := 3) (v := ?_) rfl (by kernel_rfl) (by kernel_rfl) (by kernel_rfl) (fun _ _ _ h => h) (Or.inl ⟨by rfl, ?_⟩) hHeld ?_
  rotate_left
  ·intro wq hSw
   have qb := fun i => (hSw.cell (p := ⟨w.heap.size, i, none⟩) n4).trans (c4 i)
   go_simp
   try with_reducible rfl
  try simp only [Act.put, List.getElem_toArray, List.getElem_cons_succ, List.getElem_cons_zero, List.setIfInBounds_toArray, List.set_cons_zero, List.set_cons_succ]
  refine wpAnyH_take (i := 5) (v := ?_) rfl (by kernel_rfl) (by kernel_rfl) (by kernel_rfl) (fun _ _ _ h => h) (Or.inl ⟨by rfl, ?_⟩) hHeld ?_
  rotate_left
  ·intro wq hSw
   have qb := fun i => (hSw.cell (p := ⟨w.heap.size, i, none⟩) n4).trans (c4 i)
   go_simp
   try with_reducible rfl
  try simp only [Act.put, List.getElem_toArray, List.getElem_cons_succ, List.getElem_cons_zero, List.setIfInBounds_toArray, List.set_cons_zero, List.set_cons_succ]
  refine wpAnyH_take (i := 6) (v := ?_) rfl (by kernel_rfl) (by kernel_rfl) (by kernel_rfl) (fun _ _ _ h => h) (Or.inl ⟨by rfl, ?_⟩) hHeld ?_
  rotate_left
  ·intro wq hSw
   have qb := fun i => (hSw.cell (p := ⟨w.heap.size, i, none⟩) n4).trans (c4 i)
   go_simp
   try with_reducible rfl
  try simp only [Act.put, List.getElem_toArray, List.getElem_cons_succ, List.getElem_cons_zero, List.setIfInBounds_toArray, List.set_cons_zero, List.set_cons_succ]
  refine wpAnyH_take (i := 8) (v := ?_) rfl (by kernel_rfl) (by kernel_rfl) (by kernel_rfl) (fun _ _ _ h => h) (Or.inl ⟨by rfl, ?_⟩) hHeld ?_
  rotate_left
  ·intro wq hSw
   have qb := fun i => (hSw.cell (p := ⟨w.heap.size, i, none⟩) n4).trans (c4 i)
   go_simp
   try with_reducible rfl
  try simp only [Act.put, List.getElem_toArray, List.getElem_cons_succ, List.getElem_cons_zero, List.setIfInBounds_toArray, List.set_cons_zero, List.set_cons_succ]
  refine wpAnyH_take (i := 9) (v := ?_) rfl (by kernel_rfl) (by kernel_rfl) (by kernel_rfl) (fun _ _ _ h => h) (Or.inl ⟨by rfl, ?_⟩) hHeld ?_
  rotate_left
  ·intro wq hSw
   have qb := fun i => (hSw.cell (p := ⟨w.heap.size, i, none⟩) n4).trans (c4 i)
   go_simp
   try with_reducible rfl
  try simp only [Act.put, List.getElem_toArray, List.getElem_cons_succ, List.getElem_cons_zero, List.setIfInBounds_toArray, List.set_cons_zero, List.set_cons_succ]
  refine wpAnyH_take (i := 11) (v := ?_) rfl (by kernel_rfl) (by kernel_rfl) (by kernel_rfl) (fun _ _ _ h => h) (Or.inl ⟨by rfl, ?_⟩) hHeld ?_
  rotate_left
  ·intro wq hSw
   have qb := fun i => (hSw.cell (p := ⟨w.heap.size, i, none⟩) n4).trans (c4 i)
   go_simp
   try with_reducible rfl
  try simp only [Act.put, List.getElem_toArray, List.getElem_cons_succ, List.getElem_cons_zero, List.setIfInBounds_toArray, List.set_cons_zero, List.set_cons_succ]
  refine wpAnyH_take (i := 12) (v := ?_) rfl (by kernel_rfl) (by kernel_rfl) (by kernel_rfl) (fun _ _ _ h => h) (Or.inl ⟨by rfl, ?_⟩) hHeld ?_
  rotate_left
  ·intro wq hSw
   have qb := fun i => (hSw.cell (p := ⟨w.heap.size, i, none⟩) n4).trans (c4 i)
   go_simp
   try with_reducible rfl
  try simp only [Act.put, List.getElem_toArray, List.getElem_cons_succ, List.getElem_cons_zero, List.setIfInBounds_toArray, List.set_cons_zero, List.set_cons_succ]
  refine wpAnyH_take (i := 13) (v := ?_) rfl (by kernel_rfl) (by kernel_rfl) (by kernel_rfl) (fun _ _ _ h => h) (Or.inl ⟨by rfl, ?_⟩) hHeld ?_
  rotate_left
  ·intro wq hSw
   have qb := fun i => (hSw.cell (p := ⟨w.heap.size, i, none⟩) n4).trans (c4 i)
   go_simp
   try with_reducible rfl
  try simp only [Act.put, List.getElem_toArray, List.getElem_cons_succ, List.getElem_cons_zero, List.setIfInBounds_toArray, List.set_cons_zero, List.set_cons_succ]
  refine wpAnyH_take (i := 14) (v := ?_) rfl (by kernel_rfl) (by kernel_rfl) (by kernel_rfl) (fun _ _ _ h => h) (Or.inl ⟨by rfl, ?_⟩) hHeld ?_
  rotate_left
  ·intro wq hSw
   have qb := fun i => (hSw.cell (p := ⟨w.heap.size, i, none⟩) n4).trans (c4 i)
   go_simp
   try with_reducible rfl
  try simp only [Act.put, List.getElem_toArray, List.getElem_cons_succ, List.getElem_cons_zero, List.setIfInBounds_toArray, List.set_cons_zero, List.set_cons_succ]
  refine wpAnyH_take (i := 15) (v := ?_) rfl (by kernel_rfl) (by kernel_rfl) (by kernel_rfl) (fun _ _ _ h => h) (Or.inl ⟨by rfl, ?_⟩) hHeld ?_
  rotate_left
  ·intro wq hSw
   have qb := fun i => (hSw.cell (p := ⟨w.heap.size, i, none⟩) n4).trans (c4 i)
   go_simp
   try with_reducible rfl
  try simp only [Act.put, List.getElem_toArray, List.getElem_cons_succ, List.getElem_cons_zero, List.setIfInBounds_toArray, List.set_cons_zero, List.set_cons_succ]
  refine wpAnyH_take (i := 16) (v := ?_) rfl (by kernel_rfl) (by kernel_rfl) (by kernel_rfl) (fun _ _ _ h => h) (Or.inl ⟨by rfl, ?_⟩) hHeld ?_
  rotate_left
  ·intro wq hSw
   have qb := fun i => (hSw.cell (p := ⟨w.heap.size, i, none⟩) n4).trans (c4 i)
   go_simp
   try with_reducible rfl
  try simp only [Act.put, List.getElem_toArray, List.getElem_cons_succ, List.getElem_cons_zero, List.setIfInBounds_toArray, List.set_cons_zero, List.set_cons_succ]
  refine wpAnyH_take (i := 17) (v := ?_) rfl (by kernel_rfl) (by kernel_rfl) (by kernel_rfl) (fun _ _ _ h => h) (Or.inl ⟨by rfl, ?_⟩) hHeld ?_
  rotate_left
  ·intro wq hSw
   have hw1 : IntKind.i64.wrap 1 = 1 := rfl
   have hw2 : IntKind.i64.wrap 2 = 2 := rfl
   have hw3 : IntKind.i64.wrap 3 = 3 := rfl
   go_simp
   try with_reducible rfl
  try simp only [Act.put, List.getElem_toArray, List.getElem_cons_succ, List.getElem_cons_zero, List.setIfInBounds_toArray, List.set_cons_zero, List.set_cons_succ]
  refine wpAnyH_take (i := 18) (v := ?_) rfl (by kernel_rfl) (by kernel_rfl) (by kernel_rfl) (fun _ _ _ h => h) (Or.inl ⟨by rfl, ?_⟩) hHeld ?_
  rotate_left
  ·intro wq hSw
   have hw1 : IntKind.i64.wrap 1 = 1 := rfl
   have hw2 : IntKind.i64.wrap 2 = 2 := rfl
   have hw3 : IntKind.i64.wrap 3 = 3 := rfl
   go_simp
   try with_reducible rfl
  try simp only [Act.put, List.getElem_toArray, List.getElem_cons_succ, List.getElem_cons_zero, List.setIfInBounds_toArray, List.set_cons_zero, List.set_cons_succ]
  refine wpAnyH_take (i := 21) (v := ?_) rfl (by kernel_rfl) (by kernel_rfl) (by kernel_rfl) (fun _ _ _ h => h) (Or.inl ⟨by rfl, ?_⟩) hHeld ?_
  rotate_left
  ·intro wq hSw
   have qb := fun i => (hSw.cell (p := ⟨w.heap.size, i, none⟩) n4).trans (c4 i)
   go_simp
   try with_reducible rfl
  try simp only [Act.put, List.getElem_toArray, List.getElem_cons_succ, List.getElem_cons_zero, List.setIfInBounds_toArray, List.set_cons_zero, List.set_cons_succ]
  refine wpAnyH_take (i := 22) (v := ?_) rfl (by kernel_rfl) (by kernel_rfl) (by kernel_rfl) (fun _ _ _ h => h) (Or.inl ⟨by rfl, ?_⟩) hHeld ?_
  rotate_left
  ·intro wq hSw
   have qb := fun i => (hSw.cell (p := ⟨w.heap.size, i, none⟩) n4).trans (c4 i)
   go_simp
   try with_reducible rfl
  try simp only [Act.put, List.getElem_toArray, List.getElem_cons_succ, List.getElem_cons_zero, List.setIfInBounds_toArray, List.set_cons_zero, List.set_cons_succ]
  refine wpAnyH_take (i := 23) (v := ?_) rfl (by kernel_rfl) (by kernel_rfl) (by kernel_rfl) (fun _ _ _ h => h) (Or.inl ⟨by rfl, ?_⟩) hHeld ?_
  rotate_left
  ·intro wq hSw
   have qb := fun i => (hSw.cell (p := ⟨w.heap.size, i, none⟩) n4).trans (c4 i)
   go_simp
   try with_reducible rfl
  try simp only [Act.put, List.getElem_toArray, List.getElem_cons_succ, List.getElem_cons_zero, List.setIfInBounds_toArray, List.set_cons_zero, List.set_cons_succ]
  refine wpAnyH_ready (rs := [4]) (by kernel_rfl) (by simp) ?_
  refine AllReadyH.cons rfl (fun K hK => ?_) AllReadyH.nil
  go_simp
  go_at_call 79
  refine (IF.out _ (HB4.out.trans (hHeld.mono HB4.out.size))).mono ?_
  rintro e w8 ⟨rfl, hb8⟩
  have hS8 := hHeld.trans (hb8.mono hHeld.size)
  try go_wp2_with fail
  refine hK.out _ _ hS8 (fun hHeld2 => ?_)
  clear hK K hHeld hb8
  have hHeld := hS8
  clear hS8 hHeld2
  try simp only [Act.put, List.getElem_toArray, List.getElem_cons_succ, List.getElem_cons_zero, List.setIfInBounds_toArray, List.set_cons_zero, List.set_cons_succ]
  refine wpAnyH_ready (rs := [7]) (by kernel_rfl) (by simp) ?_
  refine AllReadyH.cons rfl (fun K hK => ?_) AllReadyH.nil
  go_simp
  go_at_call 79
  refine (IT.out _ (HB4.out.trans (hHeld.mono HB4.out.size))).mono ?_
  rintro e w8 ⟨rfl, hb8⟩
  have hS8 := hHeld.trans (hb8.mono hHeld.size)
  try go_wp2_with fail
  refine hK.out _ _ hS8 (fun hHeld2 => ?_)
  clear hK K hHeld hb8
  have hHeld := hS8
  clear hS8 hHeld2
  try simp only [Act.put, List.getElem_toArray, List.getElem_cons_succ, List.getElem_cons_zero, List.setIfInBounds_toArray, List.set_cons_zero, List.set_cons_succ]
  refine wpAnyH_ready (rs := [10]) (by kernel_rfl) (by simp) ?_
  refine AllReadyH.cons rfl (fun K hK => ?_) AllReadyH.nil
  go_simp
  go_at_call 79
  refine (IM.out _ (HB4.out.trans (hHeld.mono HB4.out.size))).mono ?_
  rintro e w8 ⟨rfl, hb8⟩
  have hS8 := hHeld.trans (hb8.mono hHeld.size)
  try go_wp2_with fail
  refine hK.out _ _ hS8 (fun hHeld2 => ?_)
  clear hK K hHeld hb8
  have hHeld := hS8
  clear hS8 hHeld2
  try simp only [Act.put, List.getElem_toArray, List.getElem_cons_succ, List.getElem_cons_zero, List.setIfInBounds_toArray, List.set_cons_zero, List.set_cons_succ]
  refine wpAnyH_ready (rs := [19]) (by kernel_rfl) (by simp) ?_
  refine AllReadyH.cons rfl (fun K hK => ?_) AllReadyH.nil
  go_simp
  go_at_call 143
  refine (TR.out _ (HB4.out.trans (hHeld.mono HB4.out.size)) _ rfl).mono ?_
  rintro e w8 ⟨rfl, hb8⟩
  have hS8 := hHeld.trans (hb8.mono hHeld.size)
  try go_wp2_with fail
  refine hK.out _ _ hS8 (fun hHeld2 => ?_)
  clear hK K hHeld hb8
  have hHeld := hS8
  clear hS8 hHeld2
  try simp only [Act.put, List.getElem_toArray, List.getElem_cons_succ, List.getElem_cons_zero, List.setIfInBounds_toArray, List.set_cons_zero, List.set_cons_succ]
  refine wpAnyH_take (i := 20) (v := ?_) rfl (by kernel_rfl) (by kernel_rfl) (by kernel_rfl) (fun _ _ _ h => h) (Or.inl ⟨by rfl, ?_⟩) hHeld ?_
  rotate_left
  ·intro wq hSw
   go_simp
   try with_reducible rfl
  try simp only [Act.put, List.getElem_toArray, List.getElem_cons_succ, List.getElem_cons_zero, List.setIfInBounds_toArray, List.set_cons_zero, List.set_cons_succ]
  refine wpAnyH_ready (rs := [24]) (by kernel_rfl) (by simp) ?_
  refine AllReadyH.cons rfl (fun K hK => ?_) AllReadyH.nil
  go_simp
  have hS8 := hHeld.trans (((Below.refl _ _).alloc (Nat.le_refl _) (.cells #[.string ⟨#[114, 117, 108, 101]⟩, .string name, .string DF, .string DT, .string DM, .string ON, .string (AT ++ BY), .string SV, .string letter] 9)).mono hHeld.size)
  refine hK.out _ _ hS8 (fun hHeld2 => ?_)
  clear hK K hHeld hHeld2
  have hHeld := hS8
  clear hS8
  try simp only [Act.put, List.getElem_toArray, List.getElem_cons_succ, List.getElem_cons_zero, List.setIfInBounds_toArray, List.set_cons_zero, List.set_cons_succ]
  have HJ := Lib.hid (Tryz.strings_Join w8.heap.size 0 9 ([⟨#[114, 117, 108, 101]⟩, name, DF, DT, DM, ON, AT ++ BY, SV, letter] : List ByteArray) ⟨#[32]⟩ (w8.alloc (.cells #[.string ⟨#[114, 117, 108, 101]⟩, .string name, .string DF, .string DT, .string DM, .string ON, .string (AT ++ BY), .string SV, .string letter] 9)) (join_cells w8 [⟨#[114, 117, 108, 101]⟩, name, DF, DT, DM, ON, AT ++ BY, SV, letter] 9) (by simp) (by simp) (by simp) (rx_len name DF DT DM ON AT BY SV letter (by omega)))
  rw [rx_join] at HJ
  refine wpAnyH_ready (rs := [25]) (by kernel_rfl) (by simp) ?_
  refine AllReadyH.cons rfl (fun K hK => ?_) AllReadyH.nil
  go_simp
  go_at_call 142
  refine (HJ.out).mono ?_
  rintro e w9 ⟨rfl, hb8⟩
  have hS8 := hHeld.trans (hb8.mono hHeld.size)
  try go_wp2_with fail
  refine hK.out _ _ hS8 (fun hHeld2 => ?_)
  clear hK K hHeld hb8
  have hHeld := hS8
  clear hS8 hHeld2
  try simp only [Act.put, List.getElem_toArray, List.getElem_cons_succ, List.getElem_cons_zero, List.setIfInBounds_toArray, List.set_cons_zero, List.set_cons_succ]
  refine wpAnyH_take (i := 26) (v := ?_) rfl (by kernel_rfl) (by kernel_rfl) (by kernel_rfl) (fun _ _ _ h => h) (Or.inl ⟨by rfl, ?_⟩) hHeld ?_
  rotate_left
  ·intro wq hSw
   go_simp
   try with_reducible rfl
  try simp only [Act.put, List.getElem_toArray, List.getElem_cons_succ, List.getElem_cons_zero, List.setIfInBounds_toArray, List.set_cons_zero, List.set_cons_succ]
  refine wpAnyH_take (i := 27) (v := ?_) rfl (by kernel_rfl) (by kernel_rfl) (by kernel_rfl) (fun _ _ _ h => h) (Or.inl ⟨by rfl, ?_⟩) hHeld ?_
  rotate_left
  ·intro wq hSw
   go_simp
   try with_reducible rfl
  try simp only [Act.put, List.getElem_toArray, List.getElem_cons_succ, List.getElem_cons_zero, List.setIfInBounds_toArray, List.set_cons_zero, List.set_cons_succ]
  refine wpAnyH_done (by kernel_rfl) ?_ _
  refine NoPanic.normal ?_
  go_wp2_with fail
  go_ret2
  exact ⟨ret_sx HRx.out.symm rfl, HB4.out.trans (hHeld.mono HB4.out.size)⟩
 ·skip
  refine wp_region_noPanic ?_
  refine wp_region_held_drew (S := fun W' : World => Below w4.heap.size w4 W') (by kernel_rfl) (Below.refl _ _).drew (fun hHeld0 => ?_)
  have hHeld : Below w4.heap.size w4 w4.drew := hHeld0
  clear hHeld0
  refine wpAnyH_take (i := 0) (v := ?_) rfl (by kernel_rfl) (by kernel_rfl) (by kernel_rfl) (fun _ _ _ h => h) (Or.inl ⟨by rfl, ?_⟩) hHeld ?_
  rotate_left
  ·intro wq hSw
   have qb := fun i => (hSw.cell (p := ⟨w.heap.size, i, none⟩) n4).trans (c4 i)
   go_simp
   try with_reducible rfl
  try simp only [Act.put, List.getElem_toArray, List.getElem_cons_succ, List.getElem_cons_zero, List.setIfInBounds_toArray, List.set_cons_zero, List.set_cons_succ]
  refine wpAnyH_take (i := 1) (v := ?_) rfl (by kernel_rfl) (by kernel_rfl) (by kernel_rfl) (fun _ _ _ h => h) (Or.inl ⟨by rfl, ?_⟩) hHeld ?_
  rotate_left
  ·intro wq hSw
   have qb := fun i => (hSw.cell (p := ⟨w.heap.size, i, none⟩) n4).trans (c4 i)
   go_simp
   try with_reducible rfl
  try simp only [Act.put, List.getElem_toArray, List.getElem_cons_succ, List.getElem_cons_zero, List.setIfInBounds_toArray, List.set_cons_zero, List.set_cons_succ]
  refine wpAnyH_take (i := 2) (v := ?_) rfl (by kernel_rfl) (by kernel_rfl) (by kernel_rfl) (fun _ _ _ h => h) (Or.inl ⟨by rfl, ?_⟩) hHeld ?_
  rotate_left
  ·intro wq hSw
   have qb := fun i => (hSw.cell (p := ⟨w.heap.size, i, none⟩) n4).trans (c4 i)
   go_simp
   try with_reducible rfl
  try simp only [Act.put, List.getElem_toArray, List.getElem_cons_succ, List.getElem_cons_zero, List.setIfInBounds_toArray, List.set_cons_zero, List.set_cons_succ]
  refine wpAnyH_take (i := 3) (v := ?_) rfl (by kernel_rfl) (by kernel_rfl) (by kernel_rfl) (fun _ _ _ h => h) (Or.inl ⟨by rfl, ?_⟩) hHeld ?_
  rotate_left
  ·intro wq hSw
   have qb := fun i => (hSw.cell (p := ⟨w.heap.size, i, none⟩) n4).trans (c4 i)
   go_simp
   try with_reducible rfl
  try simp only [Act.put, List.getElem_toArray, List.getElem_cons_succ, List.getElem_cons_zero, List.setIfInBounds_toArray, List.set_cons_zero, List.set_cons_succ]
  refine wpAnyH_take (i := 5) (v := ?_) rfl (by kernel_rfl) (by kernel_rfl) (by kernel_rfl) (fun _ _ _ h => h) (Or.inl ⟨by rfl, ?_⟩) hHeld ?_
  rotate_left
  ·intro wq hSw
   have qb := fun i => (hSw.cell (p := ⟨w.heap.size, i, none⟩) n4).trans (c4 i)
   go_simp
   try with_reducible rfl
  try simp only [Act.put, List.getElem_toArray, List.getElem_cons_succ, List.getElem_cons_zero, List.setIfInBounds_toArray, List.set_cons_zero, List.set_cons_succ]
  refine wpAnyH_take (i := 6) (v := ?_) rfl (by kernel_rfl) (by kernel_rfl) (by kernel_rfl) (fun _ _ _ h => h) (Or.inl ⟨by rfl, ?_⟩) hHeld ?_
  rotate_left
  ·intro wq hSw
   have qb := fun i => (hSw.cell (p := ⟨w.heap.size, i, none⟩) n4).trans (c4 i)
   go_simp
   try with_reducible rfl
  try simp only [Act.put, List.getElem_toArray, List.getElem_cons_succ, List.getElem_cons_zero, List.setIfInBounds_toArray, List.set_cons_zero, List.set_cons_succ]
  refine wpAnyH_take (i := 8) (v := ?_) rfl (by kernel_rfl) (by kernel_rfl) (by kernel_rfl) (fun _ _ _ h => h) (Or.inl ⟨by rfl, ?_⟩) hHeld ?_
  rotate_left
  ·intro wq hSw
   have qb := fun i => (hSw.cell (p := ⟨w.heap.size, i, none⟩) n4).trans (c4 i)
   go_simp
   try with_reducible rfl
  try simp only [Act.put, List.getElem_toArray, List.getElem_cons_succ, List.getElem_cons_zero, List.setIfInBounds_toArray, List.set_cons_zero, List.set_cons_succ]
  refine wpAnyH_take (i := 9) (v := ?_) rfl (by kernel_rfl) (by kernel_rfl) (by kernel_rfl) (fun _ _ _ h => h) (Or.inl ⟨by rfl, ?_⟩) hHeld ?_
  rotate_left
  ·intro wq hSw
   have qb := fun i => (hSw.cell (p := ⟨w.heap.size, i, none⟩) n4).trans (c4 i)
   go_simp
   try with_reducible rfl
  try simp only [Act.put, List.getElem_toArray, List.getElem_cons_succ, List.getElem_cons_zero, List.setIfInBounds_toArray, List.set_cons_zero, List.set_cons_succ]
  refine wpAnyH_take (i := 11) (v := ?_) rfl (by kernel_rfl) (by kernel_rfl) (by kernel_rfl) (fun _ _ _ h => h) (Or.inl ⟨by rfl, ?_⟩) hHeld ?_
  rotate_left
  ·intro wq hSw
   have qb := fun i => (hSw.cell (p := ⟨w.heap.size, i, none⟩) n4).trans (c4 i)
   go_simp
   try with_reducible rfl
  try simp only [Act.put, List.getElem_toArray, List.getElem_cons_succ, List.getElem_cons_zero, List.setIfInBounds_toArray, List.set_cons_zero, List.set_cons_succ]
  refine wpAnyH_take (i := 12) (v := ?_) rfl (by kernel_rfl) (by kernel_rfl) (by kernel_rfl) (fun _ _ _ h => h) (Or.inl ⟨by rfl, ?_⟩) hHeld ?_
  rotate_left
  ·intro wq hSw
   have qb := fun i => (hSw.cell (p := ⟨w.heap.size, i, none⟩) n4).trans (c4 i)
   go_simp
   try with_reducible rfl
  try simp only [Act.put, List.getElem_toArray, List.getElem_cons_succ, List.getElem_cons_zero, List.setIfInBounds_toArray, List.set_cons_zero, List.set_cons_succ]
  refine wpAnyH_take (i := 13) (v := ?_) rfl (by kernel_rfl) (by kernel_rfl) (by kernel_rfl) (fun _ _ _ h => h) (Or.inl ⟨by rfl, ?_⟩) hHeld ?_
  rotate_left
  ·intro wq hSw
   have qb := fun i => (hSw.cell (p := ⟨w.heap.size, i, none⟩) n4).trans (c4 i)
   go_simp
   try with_reducible rfl
  try simp only [Act.put, List.getElem_toArray, List.getElem_cons_succ, List.getElem_cons_zero, List.setIfInBounds_toArray, List.set_cons_zero, List.set_cons_succ]
  refine wpAnyH_take (i := 14) (v := ?_) rfl (by kernel_rfl) (by kernel_rfl) (by kernel_rfl) (fun _ _ _ h => h) (Or.inl ⟨by rfl, ?_⟩) hHeld ?_
  rotate_left
  ·intro wq hSw
   have qb := fun i => (hSw.cell (p := ⟨w.heap.size, i, none⟩) n4).trans (c4 i)
   go_simp
   try with_reducible rfl
  try simp only [Act.put, List.getElem_toArray, List.getElem_cons_succ, List.getElem_cons_zero, List.setIfInBounds_toArray, List.set_cons_zero, List.set_cons_succ]
  refine wpAnyH_take (i := 15) (v := ?_) rfl (by kernel_rfl) (by kernel_rfl) (by kernel_rfl) (fun _ _ _ h => h) (Or.inl ⟨by rfl, ?_⟩) hHeld ?_
  rotate_left
  ·intro wq hSw
   have qb := fun i => (hSw.cell (p := ⟨w.heap.size, i, none⟩) n4).trans (c4 i)
   go_simp
   try with_reducible rfl
  try simp only [Act.put, List.getElem_toArray, List.getElem_cons_succ, List.getElem_cons_zero, List.setIfInBounds_toArray, List.set_cons_zero, List.set_cons_succ]
  refine wpAnyH_take (i := 16) (v := ?_) rfl (by kernel_rfl) (by kernel_rfl) (by kernel_rfl) (fun _ _ _ h => h) (Or.inl ⟨by rfl, ?_⟩) hHeld ?_
  rotate_left
  ·intro wq hSw
   have qb := fun i => (hSw.cell (p := ⟨w.heap.size, i, none⟩) n4).trans (c4 i)
   go_simp
   try with_reducible rfl
  try simp only [Act.put, List.getElem_toArray, List.getElem_cons_succ, List.getElem_cons_zero, List.setIfInBounds_toArray, List.set_cons_zero, List.set_cons_succ]
  refine wpAnyH_take (i := 17) (v := ?_) rfl (by kernel_rfl) (by kernel_rfl) (by kernel_rfl) (fun _ _ _ h => h) (Or.inl ⟨by rfl, ?_⟩) hHeld ?_
  rotate_left
  ·intro wq hSw
   have hw1 : IntKind.i64.wrap 1 = 1 := rfl
   have hw2 : IntKind.i64.wrap 2 = 2 := rfl
   have hw3 : IntKind.i64.wrap 3 = 3 := rfl
   go_simp
   try with_reducible rfl
  try simp only [Act.put, List.getElem_toArray, List.getElem_cons_succ, List.getElem_cons_zero, List.setIfInBounds_toArray, List.set_cons_zero, List.set_cons_succ]
  refine wpAnyH_take (i := 18) (v := ?_) rfl (by kernel_rfl) (by kernel_rfl) (by kernel_rfl) (fun _ _ _ h => h) (Or.inl ⟨by rfl, ?_⟩) hHeld ?_
  rotate_left
  ·intro wq hSw
   have hw1 : IntKind.i64.wrap 1 = 1 := rfl
   have hw2 : IntKind.i64.wrap 2 = 2 := rfl
   have hw3 : IntKind.i64.wrap 3 = 3 := rfl
   go_simp
   try with_reducible rfl
  try simp only [Act.put, List.getElem_toArray, List.getElem_cons_succ, List.getElem_cons_zero, List.setIfInBounds_toArray, List.set_cons_zero, List.set_cons_succ]
  refine wpAnyH_take (i := 21) (v := ?_) rfl (by kernel_rfl) (by kernel_rfl) (by kernel_rfl) (fun _ _ _ h => h) (Or.inl ⟨by rfl, ?_⟩) hHeld ?_
  rotate_left
  ·intro wq hSw
   have qb := fun i => (hSw.cell (p := ⟨w.heap.size, i, none⟩) n4).trans (c4 i)
   go_simp
   try with_reducible rfl
  try simp only [Act.put, List.getElem_toArray, List.getElem_cons_succ, List.getElem_cons_zero, List.setIfInBounds_toArray, List.set_cons_zero, List.set_cons_succ]
  refine wpAnyH_take (i := 22) (v := ?_) rfl (by kernel_rfl) (by kernel_rfl) (by kernel_rfl) (fun _ _ _ h => h) (Or.inl ⟨by rfl, ?_⟩) hHeld ?_
  rotate_left
  ·intro wq hSw
   have qb := fun i => (hSw.cell (p := ⟨w.heap.size, i, none⟩) n4).trans (c4 i)
   go_simp
   try with_reducible rfl
  try simp only [Act.put, List.getElem_toArray, List.getElem_cons_succ, List.getElem_cons_zero, List.setIfInBounds_toArray, List.set_cons_zero, List.set_cons_succ]
  refine wpAnyH_take (i := 23) (v := ?_) rfl (by kernel_rfl) (by kernel_rfl) (by kernel_rfl) (fun _ _ _ h => h) (Or.inl ⟨by rfl, ?_⟩) hHeld ?_
  rotate_left
  ·intro wq hSw
   have qb := fun i => (hSw.cell (p := ⟨w.heap.size, i, none⟩) n4).trans (c4 i)
   go_simp
   try with_reducible rfl
  try simp only [Act.put, List.getElem_toArray, List.getElem_cons_succ, List.getElem_cons_zero, List.setIfInBounds_toArray, List.set_cons_zero, List.set_cons_succ]
  refine wpAnyH_ready (rs := [4]) (by kernel_rfl) (by simp) ?_
  refine AllReadyH.cons rfl (fun K hK => ?_) AllReadyH.nil
  go_simp
  go_at_call 79
  refine (IF.out _ (HB4.out.trans (hHeld.mono HB4.out.size))).mono ?_
  rintro e w8 ⟨rfl, hb8⟩
  have hS8 := hHeld.trans (hb8.mono hHeld.size)
  try go_wp2_with fail
  refine hK.out _ _ hS8 (fun hHeld2 => ?_)
  clear hK K hHeld hb8
  have hHeld := hS8
  clear hS8 hHeld2
  try simp only [Act.put, List.getElem_toArray, List.getElem_cons_succ, List.getElem_cons_zero, List.setIfInBounds_toArray, List.set_cons_zero, List.set_cons_succ]
  refine wpAnyH_ready (rs := [7]) (by kernel_rfl) (by simp) ?_
  refine AllReadyH.cons rfl (fun K hK => ?_) AllReadyH.nil
  go_simp
  go_at_call 79
  refine (IT.out _ (HB4.out.trans (hHeld.mono HB4.out.size))).mono ?_
  rintro e w8 ⟨rfl, hb8⟩
  have hS8 := hHeld.trans (hb8.mono hHeld.size)
  try go_wp2_with fail
  refine hK.out _ _ hS8 (fun hHeld2 => ?_)
  clear hK K hHeld hb8
  have hHeld := hS8
  clear hS8 hHeld2
  try simp only [Act.put, List.getElem_toArray, List.getElem_cons_succ, List.getElem_cons_zero, List.setIfInBounds_toArray, List.set_cons_zero, List.set_cons_succ]
  refine wpAnyH_ready (rs := [10]) (by kernel_rfl) (by simp) ?_
  refine AllReadyH.cons rfl (fun K hK => ?_) AllReadyH.nil
  go_simp
  go_at_call 79
  refine (IM.out _ (HB4.out.trans (hHeld.mono HB4.out.size))).mono ?_
  rintro e w8 ⟨rfl, hb8⟩
  have hS8 := hHeld.trans (hb8.mono hHeld.size)
  try go_wp2_with fail
  refine hK.out _ _ hS8 (fun hHeld2 => ?_)
  clear hK K hHeld hb8
  have hHeld := hS8
  clear hS8 hHeld2
  try simp only [Act.put, List.getElem_toArray, List.getElem_cons_succ, List.getElem_cons_zero, List.setIfInBounds_toArray, List.set_cons_zero, List.set_cons_succ]
  refine wpAnyH_ready (rs := [19]) (by kernel_rfl) (by simp) ?_
  refine AllReadyH.cons rfl (fun K hK => ?_) AllReadyH.nil
  go_simp
  go_at_call 143
  refine (TR.out _ (HB4.out.trans (hHeld.mono HB4.out.size)) _ rfl).mono ?_
  rintro e w8 ⟨rfl, hb8⟩
  have hS8 := hHeld.trans (hb8.mono hHeld.size)
  try go_wp2_with fail
  refine hK.out _ _ hS8 (fun hHeld2 => ?_)
  clear hK K hHeld hb8
  have hHeld := hS8
  clear hS8 hHeld2
  try simp only [Act.put, List.getElem_toArray, List.getElem_cons_succ, List.getElem_cons_zero, List.setIfInBounds_toArray, List.set_cons_zero, List.set_cons_succ]
  refine wpAnyH_take (i := 20) (v := ?_) rfl (by kernel_rfl) (by kernel_rfl) (by kernel_rfl) (fun _ _ _ h => h) (Or.inl ⟨by rfl, ?_⟩) hHeld ?_
  rotate_left
  ·intro wq hSw
   go_simp
   try with_reducible rfl
  try simp only [Act.put, List.getElem_toArray, List.getElem_cons_succ, List.getElem_cons_zero, List.setIfInBounds_toArray, List.set_cons_zero, List.set_cons_succ]
  refine wpAnyH_ready (rs := [24]) (by kernel_rfl) (by simp) ?_
  refine AllReadyH.cons rfl (fun K hK => ?_) AllReadyH.nil
  go_simp
  have hS8 := hHeld.trans (((Below.refl _ _).alloc (Nat.le_refl _) (.cells #[.string ⟨#[114, 117, 108, 101]⟩, .string name, .string DF, .string DT, .string DM, .string ON, .string (AT ++ BY), .string SV, .string letter] 9)).mono hHeld.size)
  refine hK.out _ _ hS8 (fun hHeld2 => ?_)
  clear hK K hHeld hHeld2
  have hHeld := hS8
  clear hS8
  try simp only [Act.put, List.getElem_toArray, List.getElem_cons_succ, List.getElem_cons_zero, List.setIfInBounds_toArray, List.set_cons_zero, List.set_cons_succ]
  have HJ := Lib.hid (Tryz.strings_Join w8.heap.size 0 9 ([⟨#[114, 117, 108, 101]⟩, name, DF, DT, DM, ON, AT ++ BY, SV, letter] : List ByteArray) ⟨#[32]⟩ (w8.alloc (.cells #[.string ⟨#[114, 117, 108, 101]⟩, .string name, .string DF, .string DT, .string DM, .string ON, .string (AT ++ BY), .string SV, .string letter] 9)) (join_cells w8 [⟨#[114, 117, 108, 101]⟩, name, DF, DT, DM, ON, AT ++ BY, SV, letter] 9) (by simp) (by simp) (by simp) (rx_len name DF DT DM ON AT BY SV letter (by omega)))
  rw [rx_join] at HJ
  refine wpAnyH_ready (rs := [25]) (by kernel_rfl) (by simp) ?_
  refine AllReadyH.cons rfl (fun K hK => ?_) AllReadyH.nil
  go_simp
  go_at_call 142
  refine (HJ.out).mono ?_
  rintro e w9 ⟨rfl, hb8⟩
  have hS8 := hHeld.trans (hb8.mono hHeld.size)
  try go_wp2_with fail
  refine hK.out _ _ hS8 (fun hHeld2 => ?_)
  clear hK K hHeld hb8
  have hHeld := hS8
  clear hS8 hHeld2
  try simp only [Act.put, List.getElem_toArray, List.getElem_cons_succ, List.getElem_cons_zero, List.setIfInBounds_toArray, List.set_cons_zero, List.set_cons_succ]
  refine wpAnyH_take (i := 26) (v := ?_) rfl (by kernel_rfl) (by kernel_rfl) (by kernel_rfl) (fun _ _ _ h => h) (Or.inl ⟨by rfl, ?_⟩) hHeld ?_
  rotate_left
  ·intro wq hSw
   go_simp
   try with_reducible rfl
  try simp only [Act.put, List.getElem_toArray, List.getElem_cons_succ, List.getElem_cons_zero, List.setIfInBounds_toArray, List.set_cons_zero, List.set_cons_succ]
  refine wpAnyH_take (i := 27) (v := ?_) rfl (by kernel_rfl) (by kernel_rfl) (by kernel_rfl) (fun _ _ _ h => h) (Or.inl ⟨by rfl, ?_⟩) hHeld ?_
  rotate_left
  ·intro wq hSw
   go_simp
   try with_reducible rfl
  try simp only [Act.put, List.getElem_toArray, List.getElem_cons_succ, List.getElem_cons_zero, List.setIfInBounds_toArray, List.set_cons_zero, List.set_cons_succ]
  refine wpAnyH_done (by kernel_rfl) ?_ _
  refine NoPanic.normal ?_
  go_wp2_with fail
  go_ret2
  exact ⟨ret_sx HRx.out.symm rfl, HB4.out.trans (hHeld.mono HB4.out.size)⟩
 ·skip
  refine wp_region_noPanic ?_
  refine wp_region_held_drew (S := fun W' : World => Below w4.heap.size w4 W') (by kernel_rfl) (Below.refl _ _).drew (fun hHeld0 => ?_)
  have hHeld : Below w4.heap.size w4 w4.drew := hHeld0
  clear hHeld0
  refine wpAnyH_take (i := 0) (v := ?_) rfl (by kernel_rfl) (by kernel_rfl) (by kernel_rfl) (fun _ _ _ h => h) (Or.inl ⟨by rfl, ?_⟩) hHeld ?_
  rotate_left
  ·intro wq hSw
   have qb := fun i => (hSw.cell (p := ⟨w.heap.size, i, none⟩) n4).trans (c4 i)
   go_simp
   try with_reducible rfl
  try simp only [Act.put, List.getElem_toArray, List.getElem_cons_succ, List.getElem_cons_zero, List.setIfInBounds_toArray, List.set_cons_zero, List.set_cons_succ]
  refine wpAnyH_take (i := 1) (v := ?_) rfl (by kernel_rfl) (by kernel_rfl) (by kernel_rfl) (fun _ _ _ h => h) (Or.inl ⟨by rfl, ?_⟩) hHeld ?_
  rotate_left
  ·intro wq hSw
   have qb := fun i => (hSw.cell (p := ⟨w.heap.size, i, none⟩) n4).trans (c4 i)
   go_simp
   try with_reducible rfl
  try simp only [Act.put, List.getElem_toArray, List.getElem_cons_succ, List.getElem_cons_zero, List.setIfInBounds_toArray, List.set_cons_zero, List.set_cons_succ]
  refine wpAnyH_take (i := 2) (v := ?_) rfl (by kernel_rfl) (by kernel_rfl) (by kernel_rfl) (fun _ _ _ h => h) (Or.inl ⟨by rfl, ?_⟩) hHeld ?_
  rotate_left
  ·intro wq hSw
   have qb := fun i => (hSw.cell (p := ⟨w.heap.size, i, none⟩) n4).trans (c4 i)
   go_simp
   try with_reducible rfl
  try simp only [Act.put, List.getElem_toArray, List.getElem_cons_succ, List.getElem_cons_zero, List.setIfInBounds_toArray, List.set_cons_zero, List.set_cons_succ]
  refine wpAnyH_take (i := 3) (v := ?_) rfl (by kernel_rfl) (by kernel_rfl) (by kernel_rfl) (fun _ _ _ h => h) (Or.inl ⟨by rfl, ?_⟩) hHeld ?_
  rotate_left
  ·intro wq hSw
   have qb := fun i => (hSw.cell (p := ⟨w.heap.size, i, none⟩) n4).trans (c4 i)
   go_simp
   try with_reducible rfl
  try simp only [Act.put, List.getElem_toArray, List.getElem_cons_succ, List.getElem_cons_zero, List.setIfInBounds_toArray, List.set_cons_zero, List.set_cons_succ]
  refine wpAnyH_take (i := 5) (v := ?_) rfl (by kernel_rfl) (by kernel_rfl) (by kernel_rfl) (fun _ _ _ h => h) (Or.inl ⟨by rfl, ?_⟩) hHeld ?_
  rotate_left
  ·intro wq hSw
   have qb := fun i => (hSw.cell (p := ⟨w.heap.size, i, none⟩) n4).trans (c4 i)
   go_simp
   try with_reducible rfl
  try simp only [Act.put, List.getElem_toArray, List.getElem_cons_succ, List.getElem_cons_zero, List.setIfInBounds_toArray, List.set_cons_zero, List.set_cons_succ]
  refine wpAnyH_take (i := 6) (v := ?_) rfl (by kernel_rfl) (by kernel_rfl) (by kernel_rfl) (fun _ _ _ h => h) (Or.inl ⟨by rfl, ?_⟩) hHeld ?_
  rotate_left
  ·intro wq hSw
   have qb := fun i => (hSw.cell (p := ⟨w.heap.size, i, none⟩) n4).trans (c4 i)
   go_simp
   try with_reducible rfl
  try simp only [Act.put, List.getElem_toArray, List.getElem_cons_succ, List.getElem_cons_zero, List.setIfInBounds_toArray, List.set_cons_zero, List.set_cons_succ]
  refine wpAnyH_take (i := 8) (v := ?_) rfl (by kernel_rfl) (by kernel_rfl) (by kernel_rfl) (fun _ _ _ h => h) (Or.inl ⟨by rfl, ?_⟩) hHeld ?_
  rotate_left
  ·intro wq hSw
   have qb := fun i => (hSw.cell (p := ⟨w.heap.size, i, none⟩) n4).trans (c4 i)
   go_simp
   try with_reducible rfl
  try simp only [Act.put, List.getElem_toArray, List.getElem_cons_succ, List.getElem_cons_zero, List.setIfInBounds_toArray, List.set_cons_zero, List.set_cons_succ]
  refine wpAnyH_take (i := 9) (v := ?_) rfl (by kernel_rfl) (by kernel_rfl) (by kernel_rfl) (fun _ _ _ h => h) (Or.inl ⟨by rfl, ?_⟩) hHeld ?_
  rotate_left
  ·intro wq hSw
   have qb := fun i => (hSw.cell (p := ⟨w.heap.size, i, none⟩) n4).trans (c4 i)
   go_simp
   try with_reducible rfl
  try simp only [Act.put, List.getElem_toArray, List.getElem_cons_succ, List.getElem_cons_zero, List.setIfInBounds_toArray, List.set_cons_zero, List.set_cons_succ]
  refine wpAnyH_take (i := 11) (v := ?_) rfl (by kernel_rfl) (by kernel_rfl) (by kernel_rfl) (fun _ _ _ h => h) (Or.inl ⟨by rfl, ?_⟩) hHeld ?_
  rotate_left
  ·intro wq hSw
   have qb := fun i => (hSw.cell (p := ⟨w.heap.size, i, none⟩) n4).trans (c4 i)
   go_simp
   try with_reducible rfl
  try simp only [Act.put, List.getElem_toArray, List.getElem_cons_succ, List.getElem_cons_zero, List.setIfInBounds_toArray, List.set_cons_zero, List.set_cons_succ]
  refine wpAnyH_take (i := 12) (v := ?_) rfl (by kernel_rfl) (by kernel_rfl) (by kernel_rfl) (fun _ _ _ h => h) (Or.inl ⟨by rfl, ?_⟩) hHeld ?_
  rotate_left
  ·intro wq hSw
   have qb := fun i => (hSw.cell (p := ⟨w.heap.size, i, none⟩) n4).trans (c4 i)
   go_simp
   try with_reducible rfl
  try simp only [Act.put, List.getElem_toArray, List.getElem_cons_succ, List.getElem_cons_zero, List.setIfInBounds_toArray, List.set_cons_zero, List.set_cons_succ]
  refine wpAnyH_take (i := 13) (v := ?_) rfl (by kernel_rfl) (by kernel_rfl) (by kernel_rfl) (fun _ _ _ h => h) (Or.inl ⟨by rfl, ?_⟩) hHeld ?_
  rotate_left
  ·intro wq hSw
   have qb := fun i => (hSw.cell (p := ⟨w.heap.size, i, none⟩) n4).trans (c4 i)
   go_simp
   try with_reducible rfl
  try simp only [Act.put, List.getElem_toArray, List.getElem_cons_succ, List.getElem_cons_zero, List.setIfInBounds_toArray, List.set_cons_zero, List.set_cons_succ]
  refine wpAnyH_take (i := 14) (v := ?_) rfl (by kernel_rfl) (by kernel_rfl) (by kernel_rfl) (fun _ _ _ h => h) (Or.inl ⟨by rfl, ?_⟩) hHeld ?_
  rotate_left
  ·intro wq hSw
   have qb := fun i => (hSw.cell (p := ⟨w.heap.size, i, none⟩) n4).trans (c4 i)
   go_simp
   try with_reducible rfl
  try simp only [Act.put, List.getElem_toArray, List.getElem_cons_succ, List.getElem_cons_zero, List.setIfInBounds_toArray, List.set_cons_zero, List.set_cons_succ]
  refine wpAnyH_take (i := 15) (v := ?_) rfl (by kernel_rfl) (by kernel_rfl) (by kernel_rfl) (fun _ _ _ h => h) (Or.inl ⟨by rfl, ?_⟩) hHeld ?_
  rotate_left
  ·intro wq hSw
   have qb := fun i => (hSw.cell (p := ⟨w.heap.size, i, none⟩) n4).trans (c4 i)
   go_simp
   try with_reducible rfl
  try simp only [Act.put, List.getElem_toArray, List.getElem_cons_succ, List.getElem_cons_zero, List.setIfInBounds_toArray, List.set_cons_zero, List.set_cons_succ]
  refine wpAnyH_take (i := 16) (v := ?_) rfl (by kernel_rfl) (by kernel_rfl) (by kernel_rfl) (fun _ _ _ h => h) (Or.inl ⟨by rfl, ?_⟩) hHeld ?_
  rotate_left
  ·intro wq hSw
   have qb := fun i => (hSw.cell (p := ⟨w.heap.size, i, none⟩) n4).trans (c4 i)
   go_simp
   try with_reducible rfl
  try simp only [Act.put, List.getElem_toArray, List.getElem_cons_succ, List.getElem_cons_zero, List.setIfInBounds_toArray, List.set_cons_zero, List.set_cons_succ]
  refine wpAnyH_take (i := 17) (v := ?_) rfl (by kernel_rfl) (by kernel_rfl) (by kernel_rfl) (fun _ _ _ h => h) (Or.inl ⟨by rfl, ?_⟩) hHeld ?_
  rotate_left
  ·intro wq hSw
   have hw1 : IntKind.i64.wrap 1 = 1 := rfl
   have hw2 : IntKind.i64.wrap 2 = 2 := rfl
   have hw3 : IntKind.i64.wrap 3 = 3 := rfl
   go_simp
   try with_reducible rfl
  try simp only [Act.put, List.getElem_toArray, List.getElem_cons_succ, List.getElem_cons_zero, List.setIfInBounds_toArray, List.set_cons_zero, List.set_cons_succ]
  refine wpAnyH_take (i := 18) (v := ?_) rfl (by kernel_rfl) (by kernel_rfl) (by kernel_rfl) (fun _ _ _ h => h) (Or.inl ⟨by rfl, ?_⟩) hHeld ?_
  rotate_left
  ·intro wq hSw
   have hw1 : IntKind.i64.wrap 1 = 1 := rfl
   have hw2 : IntKind.i64.wrap 2 = 2 := rfl
   have hw3 : IntKind.i64.wrap 3 = 3 := rfl
   go_simp
   try with_reducible rfl
  try simp only [Act.put, List.getElem_toArray, List.getElem_cons_succ, List.getElem_cons_zero, List.setIfInBounds_toArray, List.set_cons_zero, List.set_cons_succ]
  refine wpAnyH_take (i := 21) (v := ?_) rfl (by kernel_rfl) (by kernel_rfl) (by kernel_rfl) (fun _ _ _ h => h) (Or.inl ⟨by rfl, ?_⟩) hHeld ?_
  rotate_left
  ·intro wq hSw
   have qb := fun i => (hSw.cell (p := ⟨w.heap.size, i, none⟩) n4).trans (c4 i)
   go_simp
   try with_reducible rfl
  try simp only [Act.put, List.getElem_toArray, List.getElem_cons_succ, List.getElem_cons_zero, List.setIfInBounds_toArray, List.set_cons_zero, List.set_cons_succ]
  refine wpAnyH_take (i := 22) (v := ?_) rfl (by kernel_rfl) (by kernel_rfl) (by kernel_rfl) (fun _ _ _ h => h) (Or.inl ⟨by rfl, ?_⟩) hHeld ?_
  rotate_left
  ·intro wq hSw
   have qb := fun i => (hSw.cell (p := ⟨w.heap.size, i, none⟩) n4).trans (c4 i)
   go_simp
   try with_reducible rfl
  try simp only [Act.put, List.getElem_toArray, List.getElem_cons_succ, List.getElem_cons_zero, List.setIfInBounds_toArray, List.set_cons_zero, List.set_cons_succ]
  refine wpAnyH_take (i := 23) (v := ?_) rfl (by kernel_rfl) (by kernel_rfl) (by kernel_rfl) (fun _ _ _ h => h) (Or.inl ⟨by rfl, ?_⟩) hHeld ?_
  rotate_left
  ·intro wq hSw
   have qb := fun i => (hSw.cell (p := ⟨w.heap.size, i, none⟩) n4).trans (c4 i)
   go_simp
   try with_reducible rfl
  try simp only [Act.put, List.getElem_toArray, List.getElem_cons_succ, List.getElem_cons_zero, List.setIfInBounds_toArray, List.set_cons_zero, List.set_cons_succ]
  refine wpAnyH_ready (rs := [4]) (by kernel_rfl) (by simp) ?_
  refine AllReadyH.cons rfl (fun K hK => ?_) AllReadyH.nil
  go_simp
  go_at_call 79
  refine (IF.out _ (HB4.out.trans (hHeld.mono HB4.out.size))).mono ?_
  rintro e w8 ⟨rfl, hb8⟩
  have hS8 := hHeld.trans (hb8.mono hHeld.size)
  try go_wp2_with fail
  refine hK.out _ _ hS8 (fun hHeld2 => ?_)
  clear hK K hHeld hb8
  have hHeld := hS8
  clear hS8 hHeld2
  try simp only [Act.put, List.getElem_toArray, List.getElem_cons_succ, List.getElem_cons_zero, List.setIfInBounds_toArray, List.set_cons_zero, List.set_cons_succ]
  refine wpAnyH_ready (rs := [7]) (by kernel_rfl) (by simp) ?_
  refine AllReadyH.cons rfl (fun K hK => ?_) AllReadyH.nil
  go_simp
  go_at_call 79
  refine (IT.out _ (HB4.out.trans (hHeld.mono HB4.out.size))).mono ?_
  rintro e w8 ⟨rfl, hb8⟩
  have hS8 := hHeld.trans (hb8.mono hHeld.size)
  try go_wp2_with fail
  refine hK.out _ _ hS8 (fun hHeld2 => ?_)
  clear hK K hHeld hb8
  have hHeld := hS8
  clear hS8 hHeld2
  try simp only [Act.put, List.getElem_toArray, List.getElem_cons_succ, List.getElem_cons_zero, List.setIfInBounds_toArray, List.set_cons_zero, List.set_cons_succ]
  refine wpAnyH_ready (rs := [10]) (by kernel_rfl) (by simp) ?_
  refine AllReadyH.cons rfl (fun K hK => ?_) AllReadyH.nil
  go_simp
  go_at_call 79
  refine (IM.out _ (HB4.out.trans (hHeld.mono HB4.out.size))).mono ?_
  rintro e w8 ⟨rfl, hb8⟩
  have hS8 := hHeld.trans (hb8.mono hHeld.size)
  try go_wp2_with fail
  refine hK.out _ _ hS8 (fun hHeld2 => ?_)
  clear hK K hHeld hb8
  have hHeld := hS8
  clear hS8 hHeld2
  try simp only [Act.put, List.getElem_toArray, List.getElem_cons_succ, List.getElem_cons_zero, List.setIfInBounds_toArray, List.set_cons_zero, List.set_cons_succ]
  refine wpAnyH_ready (rs := [19]) (by kernel_rfl) (by simp) ?_
  refine AllReadyH.cons rfl (fun K hK => ?_) AllReadyH.nil
  go_simp
  go_at_call 143
  refine (TR.out _ (HB4.out.trans (hHeld.mono HB4.out.size)) _ rfl).mono ?_
  rintro e w8 ⟨rfl, hb8⟩
  have hS8 := hHeld.trans (hb8.mono hHeld.size)
  try go_wp2_with fail
  refine hK.out _ _ hS8 (fun hHeld2 => ?_)
  clear hK K hHeld hb8
  have hHeld := hS8
  clear hS8 hHeld2
  try simp only [Act.put, List.getElem_toArray, List.getElem_cons_succ, List.getElem_cons_zero, List.setIfInBounds_toArray, List.set_cons_zero, List.set_cons_succ]
  refine wpAnyH_take (i := 20) (v := ?_) rfl (by kernel_rfl) (by kernel_rfl) (by kernel_rfl) (fun _ _ _ h => h) (Or.inl ⟨by rfl, ?_⟩) hHeld ?_
  rotate_left
  ·intro wq hSw
   go_simp
   try with_reducible rfl
  try simp only [Act.put, List.getElem_toArray, List.getElem_cons_succ, List.getElem_cons_zero, List.setIfInBounds_toArray, List.set_cons_zero, List.set_cons_succ]
  refine wpAnyH_ready (rs := [24]) (by kernel_rfl) (by simp) ?_
  refine AllReadyH.cons rfl (fun K hK => ?_) AllReadyH.nil
  go_simp
  have hS8 := hHeld.trans (((Below.refl _ _).alloc (Nat.le_refl _) (.cells #[.string ⟨#[114, 117, 108, 101]⟩, .string name, .string DF, .string DT, .string DM, .string ON, .string (AT ++ BY), .string SV, .string letter] 9)).mono hHeld.size)
  refine hK.out _ _ hS8 (fun hHeld2 => ?_)
  clear hK K hHeld hHeld2
  have hHeld := hS8
  clear hS8
  try simp only [Act.put, List.getElem_toArray, List.getElem_cons_succ, List.getElem_cons_zero, List.setIfInBounds_toArray, List.set_cons_zero, List.set_cons_succ]
  have HJ := Lib.hid (Tryz.strings_Join w8.heap.size 0 9 ([⟨#[114, 117, 108, 101]⟩, name, DF, DT, DM, ON, AT ++ BY, SV, letter] : List ByteArray) ⟨#[32]⟩ (w8.alloc (.cells #[.string ⟨#[114, 117, 108, 101]⟩, .string name, .string DF, .string DT, .string DM, .string ON, .string (AT ++ BY), .string SV, .string letter] 9)) (join_cells w8 [⟨#[114, 117, 108, 101]⟩, name, DF, DT, DM, ON, AT ++ BY, SV, letter] 9) (by simp) (by simp) (by simp) (rx_len name DF DT DM ON AT BY SV letter (by omega)))
  rw [rx_join] at HJ
  refine wpAnyH_ready (rs := [25]) (by kernel_rfl) (by simp) ?_
  refine AllReadyH.cons rfl (fun K hK => ?_) AllReadyH.nil
  go_simp
  go_at_call 142
  refine (HJ.out).mono ?_
  rintro e w9 ⟨rfl, hb8⟩
  have hS8 := hHeld.trans (hb8.mono hHeld.size)
  try go_wp2_with fail
  refine hK.out _ _ hS8 (fun hHeld2 => ?_)
  clear hK K hHeld hb8
  have hHeld := hS8
  clear hS8 hHeld2
  try simp only [Act.put, List.getElem_toArray, List.getElem_cons_succ, List.getElem_cons_zero, List.setIfInBounds_toArray, List.set_cons_zero, List.set_cons_succ]
  refine wpAnyH_take (i := 26) (v := ?_) rfl (by kernel_rfl) (by kernel_rfl) (by kernel_rfl) (fun _ _ _ h => h) (Or.inl ⟨by rfl, ?_⟩) hHeld ?_
  rotate_left
  ·intro wq hSw
   go_simp
   try with_reducible rfl
  try simp only [Act.put, List.getElem_toArray, List.getElem_cons_succ, List.getElem_cons_zero, List.setIfInBounds_toArray, List.set_cons_zero, List.set_cons_succ]
  refine wpAnyH_take (i := 27) (v := ?_) rfl (by kernel_rfl) (by kernel_rfl) (by kernel_rfl) (fun _ _ _ h => h) (Or.inl ⟨by rfl, ?_⟩) hHeld ?_
  rotate_left
  ·intro wq hSw
   go_simp
   try with_reducible rfl
  try simp only [Act.put, List.getElem_toArray, List.getElem_cons_succ, List.getElem_cons_zero, List.setIfInBounds_toArray, List.set_cons_zero, List.set_cons_succ]
  refine wpAnyH_done (by kernel_rfl) ?_ _
  refine NoPanic.normal ?_
  go_wp2_with fail
  go_ret2
  exact ⟨ret_sx HRx.out.symm rfl, HB4.out.trans (hHeld.mono HB4.out.size)⟩
theorem u_Text (name letter : ByteArray) (f t m k wd n a b sv : Int) (hn : name.size ≤ maxLen) (hl : letter.size ≤ maxLen) (w : World) (HI : ∀ y : Nat, y < 10000 → ItoaIn w y) (HT : TrimIn w) :
  Calls Tryz.prog 96 #[.agg #[.string name, .int .i64 f, .int .i64 t, .int .i64 m, .int .i64 k, .int .i64 wd, .int .i64 n, .int .i64 a, .int .i64 b, .int .i64 sv, .string letter]] w fun e w' => e = .returned (.tuple #[.string (rxV name letter f t m k wd n a b sv), .int .i64 (ruleE name letter f t m k wd n a b sv)]) ∧ Below w.heap.size w w' := by
 by_cases h : ruleE name letter f t m k wd n a b sv = 0
 ·obtain ⟨_, _, ⟨f1, f2, f3, f4, f5, f6⟩, _, _, _, b1, b2, _, _⟩ := rule_ok h
  obtain ⟨F, rfl⟩ : ∃ F : Nat, f = F := ⟨f.toNat, by omega⟩
  obtain ⟨T, rfl⟩ : ∃ F : Nat, t = F := ⟨t.toNat, by omega⟩
  obtain ⟨M, rfl⟩ : ∃ F : Nat, m = F := ⟨m.toNat, by omega⟩
  obtain ⟨b, rfl⟩ : ∃ F : Nat, b = F := ⟨b.toNat, by omega⟩
  rw [rxV, if_pos h, h]
  exact u_Text_ok name letter F T M k wd n a sv b hn hl h w HI HT
 ·rw [rxV, if_neg h]
  exact u_Text_no name letter f t m k wd n a b sv hn hl w _ rfl h
end Go.Proofs.YthppifcggmdmoaaGreatDoor

