/- Part 6 of the proof of TopWall: no condition; what its declarations say stands at each. -/
import Derived.Test.YthppifcggmdmoaaGreatDoorW04
import Derived.Test.YthppifcggmdmoaaGreatDoorW05
import Derived.Test.YthppifcggmdmoaaGreatDoorRows
import Derived.LaidMore
import Derived.Stop.Joined
import Derived.Stop.LaidErr
import Derived.Lib.LaidTab
import Derived.Lib.ItoaNum
import Derived.Test.YthppifcggmdmoaaGreatDoorW03
import Derived.Lib.AtoiAllCases
import Derived.Lib.Split
import Derived.Lib.IndexBytes
namespace Go.Proofs.YthppifcggmdmoaaGreatDoor
open Go.ChangeShapes Go.WideShapes Go.ChangeAt Go.RowKit
set_option linter.unusedVariables false
theorem wfb {n : Int} (h : (Lit.int .i64 n).wf = true) : wf63 n := by
 unfold wf63
 simp [Lit.wf, IntKind.min, IntKind.max, IntKind.signed, IntKind.bits] at h; omega
theorem map_ofB {α : Type} (f : α → List Value) (xs : List (List Value)) (Q : α → Prop) (h : ∀ i, i < xs.length → ∃ a, xs.getD i [] = f a ∧ Q a) : ∃ l : List α, xs = l.map f ∧ ∀ a ∈ l, Q a := by
 induction xs with
 | nil => exact ⟨[], rfl, by simp⟩
 | cons x r ih =>
  obtain ⟨l, h1, h2⟩ := ih (fun i hi => by have := h (i + 1) (by simp; omega); simpa using this)
  obtain ⟨a, e, q⟩ := h 0 (by simp)
  refine ⟨a :: l, by simp [← h1]; simpa using e, fun b hb => ?_⟩
  rcases List.mem_cons.1 hb with rfl | hb
  ·exact q
  ·exact h2 b hb
theorem cells_zone : Tryz.prog.cellsOf 75 = 2 := by kernel_rfl
theorem cells_book : Tryz.prog.cellsOf 26 = 3 := by kernel_rfl
theorem cells_sl_era : Tryz.prog.cellsOf 73 = 1 := by kernel_rfl
theorem cells_sl_rule : Tryz.prog.cellsOf 22 = 1 := by kernel_rfl
theorem cells_sl_zone : Tryz.prog.cellsOf 23 = 1 := by kernel_rfl
theorem cells_sl_link : Tryz.prog.cellsOf 24 = 1 := by kernel_rfl
section
variable {H : Type} {enc : TypeId × Value → H} {w : World} {base : Nat} {spare : Nat → Bool} {held : Bool} {fuel : Nat} {cs : List Value} {x : DataW H × List MemPlace}
set_option maxRecDepth 100000 in
theorem open_zone (h : DataW.trod enc Tryz.prog w base spare held fuel 75 cs = some x) : ∃ z : ZoT, cs = zoC z ∧ zoOk w w.heap.size z := by
 obtain ⟨xs, n, _, _, hlen, hxl, hg⟩ := DataW.trod_struct Tryz.underlying75 h
 match cs, hlen.trans cells_zone with
 | [c0, c1], _ =>
  obtain ⟨y0, h0⟩ : ∃ y, DataW.trod enc Tryz.prog w base spare held n 9 ((([c0, c1] : List Value).drop 0).take (Tryz.prog.cellsOf 9)) = some y := fld hg hxl 0 _ rfl
  obtain ⟨y1, h1⟩ : ∃ y, DataW.trod enc Tryz.prog w base spare held n 73 ((([c0, c1] : List Value).drop 1).take (Tryz.prog.cellsOf 73)) = some y := fld hg hxl 1 _ rfl
  rw [cells_string] at h0
  rw [cells_sl_era] at h1
  obtain ⟨nm, e0, _, w0⟩ := DataW.trod_string Tryz.underlying9 h0
  obtain ⟨A, cap, xE, eE, lE, mE, sE, rE⟩ := open_sl Tryz.underlying73 cells_era (by omega) h1
  obtain ⟨es, rfl, hes⟩ := map_ofB (α := ErT) erC xE erOk (fun i hi => by
   obtain ⟨y, m, hy⟩ := rE i hi
   obtain ⟨off, rules, sv, format, un, e, w1, w2, w3, s1, s2⟩ := open_era hy
   exact ⟨⟨off, rules, sv, format, un⟩, e, s1, s2, wfb w1, wfb w2, wfb w3⟩)
  simp only [List.drop_zero, List.drop_succ_cons, List.take_succ_cons, List.take_zero, List.cons.injEq, and_true, List.length_map] at e0 eE lE
  subst e0 eE
  exact ⟨⟨nm, A, cap, es⟩, rfl, w0, sE, lE, mE, hes⟩
end
set_option maxRecDepth 100000 in
theorem val_book {H : Type} {enc : TypeId × Value → H} {w : World} {base b0 : Nat} {spare : Nat → Bool} {held : Bool} {v : Value} {d : DataW H} {p : List MemPlace} (hv : Value.okWide Tryz.prog w .any b0 26 v) (h : DataW.Trod enc Tryz.prog w base spare held 26 v d p) :
  ∃ D : BkD, v = .agg D.v ∧ BkOk w w.heap.size D := by
 obtain ⟨cs0, rfl, hsz⟩ := okWide_struct Tryz.underlying26 hv
 obtain ⟨fuel, hf⟩ := h
 have hf : DataW.trod enc Tryz.prog w base spare held fuel 26 cs0.toList = some (d, p) := by simpa [Value.cells] using hf
 obtain ⟨xs, n, _, _, hlen, hxl, hg⟩ := DataW.trod_struct Tryz.underlying26 hf
 obtain ⟨l⟩ := cs0
 match l, hlen.trans cells_book with
 | [c0, c1, c2], _ =>
  obtain ⟨y0, h0⟩ : ∃ y, DataW.trod enc Tryz.prog w base spare held n 22 ((([c0, c1, c2] : List Value).drop 0).take (Tryz.prog.cellsOf 22)) = some y := fld hg hxl 0 _ rfl
  obtain ⟨y1, h1⟩ : ∃ y, DataW.trod enc Tryz.prog w base spare held n 23 ((([c0, c1, c2] : List Value).drop 1).take (Tryz.prog.cellsOf 23)) = some y := fld hg hxl 1 _ rfl
  obtain ⟨y2, h2⟩ : ∃ y, DataW.trod enc Tryz.prog w base spare held n 24 ((([c0, c1, c2] : List Value).drop 2).take (Tryz.prog.cellsOf 24)) = some y := fld hg hxl 2 _ rfl
  rw [cells_sl_rule] at h0
  rw [cells_sl_zone] at h1
  rw [cells_sl_link] at h2
  obtain ⟨AR, cR, xR, eR, lR, mR, sR, rR⟩ := open_sl Tryz.underlying22 cells_rule (by omega) h0
  obtain ⟨AZ, cZ, xZ, eZ, lZ, mZ, sZ, rZ⟩ := open_sl Tryz.underlying23 cells_zone (by omega) h1
  obtain ⟨AL, cL, xL, eL, lL, mL, sL, rL⟩ := open_sl Tryz.underlying24 cells_link (by omega) h2
  obtain ⟨rs, rfl, hrs⟩ := map_ofB (α := RuT) ruC xR ruOk (fun i hi => by
   obtain ⟨y, m, hy⟩ := rR i hi
   obtain ⟨name, f, t, mo, k, wd, nn, a, b, sv, letter, e, w1, w2, w3, w4, w5, w6, w7, w8, w9, s1, s2⟩ := open_rule hy
   exact ⟨⟨name, f, t, mo, k, wd, nn, a, b, sv, letter⟩, e, s1, s2, wfb w1, wfb w2, wfb w3, wfb w4, wfb w5, wfb w6, wfb w7, wfb w8, wfb w9⟩)
  obtain ⟨zs, rfl, hzs⟩ := map_ofB (α := ZoT) zoC xZ (zoOk w w.heap.size) (fun i hi => by
   obtain ⟨y, m, hy⟩ := rZ i hi
   exact open_zone hy)
  obtain ⟨ls, rfl, hls⟩ := map_ofB (α := LkT) lkC xL (fun x => x.1.size ≤ maxLen ∧ x.2.size ≤ maxLen) (fun i hi => by
   obtain ⟨y, m, hy⟩ := rL i hi
   obtain ⟨name, to, e, s1, s2⟩ := open_link hy
   exact ⟨(name, to), e, s1, s2⟩)
  simp only [List.drop_zero, List.drop_succ_cons, List.take_succ_cons, List.take_zero, List.cons.injEq, and_true, List.length_map] at eR eZ eL lR lZ lL
  subst eR eZ eL
  exact ⟨⟨AR, AZ, AL, cR, cZ, cL, rs, zs, ls⟩, rfl, ⟨sR, sZ, sL, lR, lZ, lL, mR, mZ, mL, hrs, hzs, hls⟩⟩
end Go.Proofs.YthppifcggmdmoaaGreatDoor

namespace Go.Proofs.YthppifcggmdmoaaGreatDoor
open Go.RowKit
set_option linter.unusedVariables false
theorem row_es (u : TypeId) (h : Tryz.prog.typeName? 3 u = some "*errors.errorString") : u = 256 :=
 typeName_ptr_named (nm := "errors.errorString") (by kernel_rfl) (by kernel_rfl) (by decide) u h
theorem es_of_laid {W : World} {r : List (String × DataW Unit)} (h : laidMet Tryz.prog (("strconv.ErrSyntax", Rows.laid_strconv_ErrSyntax) :: r) W) : ∃ te pe, W.cell? ⟨4, 0, none⟩ = some (.iface te pe) := by
 obtain ⟨a, s, hv, _⟩ := laid_sentinel (g := 4) h (by kernel_rfl) (by kernel_rfl) Tryz.underlying159 row_es Tryz.underlying256 Tryz.underlying258 rfl rfl Tryz.underlying9 (by kernel_rfl) (by kernel_rfl)
 have := World.var?_cell (show Tryz.prog.globalNamed "strconv.ErrSyntax" = some 4 by kernel_rfl) hv 0
 exact ⟨_, _, by simpa using this⟩
theorem tab_of_laid {W : World} {r : List (String × DataW Unit)} (h : laidMet Tryz.prog (("internal/strconv.uint64pow10", Rows.laid_internal_strconv_uint64pow10) :: r) W) : Lib.TabIs Tryz.prog W "internal/strconv.uint64pow10" .u64 Lib.pow10Tab :=
 Lib.tabIs_of_head (k := .u64) (zs := Lib.pow10Tab) (g := 7) (n := 20) (by kernel_rfl) (by kernel_rfl) Tryz.underlying252 Tryz.underlying229 (by kernel_rfl) (by kernel_rfl) h
end Go.Proofs.YthppifcggmdmoaaGreatDoor

namespace Go.Proofs.YthppifcggmdmoaaGreatDoor
set_option linter.unusedVariables false
def lSplit (c : UInt8) : List UInt8 → List (List UInt8)
 | [] => [[]]
 | b :: l => if b = c then [] :: lSplit c l else match lSplit c l with
  | [] => [[b]]
  | w :: r => (b :: w) :: r
theorem lSplit_ne (c : UInt8) : ∀ l, lSplit c l ≠ []
 | [] => by simp [lSplit]
 | b :: l => by
  rw [lSplit]
  split
  ·simp
  ·split <;> simp
theorem lSplit_no {c : UInt8} : ∀ {a : List UInt8}, c ∉ a → lSplit c a = [a]
 | [], _ => rfl
 | b :: l, h => by
  have h1 : b ≠ c := fun e => h (by simp [e])
  have h2 : c ∉ l := fun e => h (by simp [e])
  rw [lSplit, if_neg h1, lSplit_no h2]
theorem lSplit_join {c : UInt8} (b : List UInt8) : ∀ {a : List UInt8}, c ∉ a → lSplit c (a ++ c :: b) = a :: lSplit c b
 | [], _ => by rw [List.nil_append, lSplit, if_pos rfl]
 | x :: l, h => by
  have h1 : x ≠ c := fun e => h (by simp [e])
  have h2 : c ∉ l := fun e => h (by simp [e])
  rw [List.cons_append, lSplit, if_neg h1, lSplit_join b h2]
theorem lSplit_cut {c : UInt8} : ∀ {l : List UInt8}, c ∈ l → ∃ a b, l = a ++ c :: b ∧ c ∉ a
 | [], h => by cases h
 | x :: l, h => by
  by_cases e : x = c
  ·exact ⟨[], l, by rw [e]; rfl, by simp⟩
  ·obtain ⟨a, b, h1, h2⟩ := lSplit_cut (l := l) (by
    rcases List.mem_cons.1 h with h | h
    ·exact absurd h.symm e
    ·exact h)
   exact ⟨x :: a, b, by rw [h1]; rfl, by simp [h2]; exact fun h => e h.symm⟩
theorem index_join {c : UInt8} (b : List UInt8) : ∀ {a : List UInt8}, c ∉ a → Lib.indexByte (a ++ c :: b) c = a.length
 | [], _ => by rw [List.nil_append, Lib.indexByte, if_pos (by simp)]; rfl
 | x :: l, h => by
  have h1 : ¬ (x == c) = true := fun e => h (by simp [beq_iff_eq.1 e])
  have h2 : c ∉ l := fun e => h (by simp [e])
  rw [List.cons_append, Lib.indexByte, if_neg h1, index_join b h2, if_neg (by simp)]
  simp
theorem index_one (s : ByteArray) (c : UInt8) : Lib.indexB s ⟨#[c]⟩ = Lib.indexByte s.data.toList c := by
 rw [Lib.one s ⟨#[c]⟩ rfl]
 congr 1
 show ((c.toNat : Int)).toNat.toUInt8 = c
 simp
theorem splitB_one (c : UInt8) : ∀ (n : Nat) (s : ByteArray), s.data.toList.count c = n → (Lib.splitB ⟨#[c]⟩ 0 n s).map (·.data.toList) = lSplit c s.data.toList
 | 0, s, h => by rw [Lib.splitB_zero, lSplit_no (List.count_eq_zero.1 h)]; rfl
 | n + 1, s, h => by
  obtain ⟨a, b, h1, h2⟩ := lSplit_cut (c := c) (l := s.data.toList) (List.count_pos_iff.1 (by omega))
  have hi : Lib.indexB s ⟨#[c]⟩ = a.length := by rw [index_one, h1, index_join b h2]
  have e2 : (s.extract (a.length + 1) s.size).data.toList = b := by
   rw [Lib.extract_to_end, h1, List.drop_append, List.drop_eq_nil_of_le (by omega), List.nil_append, show a.length + 1 - a.length = 1 by omega]; rfl
  have h3 : b.count c = n := by
   rw [h1, List.count_append, List.count_eq_zero_of_not_mem h2, List.count_cons_self] at h; omega
  rw [Lib.splitB_hit _ _ _ _ _ hi, List.map_cons, Lib.extract_from_zero]
  show _ :: (Lib.splitB _ 0 n (s.extract (a.length + 1) s.size)).map _ = _
  rw [splitB_one c n _ (by rw [e2]; exact h3), e2, h1, lSplit_join b h2]
  congr 1
  rw [List.take_append_of_le_length (by omega), Nat.add_zero, List.take_length]
def atV (l : List UInt8) : Int := match Lib.atoiAll l with
 | .ok v => v
 | .syntax => 0
 | .range => Lib.atoiSat l
def isDg (c : UInt8) : Prop := 48 ≤ c.toNat ∧ c.toNat ≤ 57
def dgV (l : List UInt8) : Nat := l.foldl (fun k c => 10 * k + (c.toNat - 48)) 0
theorem dgV_snoc (l : List UInt8) (c : UInt8) : dgV (l ++ [c]) = 10 * dgV l + (c.toNat - 48) := by simp [dgV]
theorem chr_nat {n : Nat} (h : n < 10) : (UInt8.ofNat (48 + n)).toNat = 48 + n := by simp; omega
theorem chr_dg {n : Nat} (h : n < 10) : isDg (UInt8.ofNat (48 + n)) := by unfold isDg; rw [chr_nat h]; omega
theorem dec_dg (n : Nat) : ∀ c ∈ Lib.decDigits n, isDg c := by
 induction n using Nat.strongRecOn with
 | ind n ih =>
  by_cases h : n < 10
  ·rw [dec_small h]; intro c hc; obtain rfl := List.mem_singleton.1 hc; exact chr_dg h
  ·rw [dec_more h]; intro c hc
   rcases List.mem_append.1 hc with hc | hc
   ·exact ih _ (by omega) c hc
   ·obtain rfl := List.mem_singleton.1 hc; exact chr_dg (by omega)
theorem dec_val (n : Nat) : dgV (Lib.decDigits n) = n := by
 induction n using Nat.strongRecOn with
 | ind n ih =>
  by_cases h : n < 10
  ·rw [dec_small h]; simp only [dgV, List.foldl_cons, List.foldl_nil]; rw [chr_nat h]; omega
  ·rw [dec_more h, dgV_snoc, ih _ (by omega), chr_nat (by omega)]; omega
theorem two_dg {n : Nat} (h : n < 100) : ∀ c ∈ (twoB n).data.toList, isDg c := by
 intro c hc
 simp [twoB] at hc
 rcases hc with rfl | rfl
 ·have := chr_dg (show n / 10 < 10 by omega); simpa using this
 ·have := chr_dg (show n % 10 < 10 by omega); simpa using this
theorem two_val {n : Nat} (h : n < 100) : dgV (twoB n).data.toList = n := by
 show 10 * (10 * 0 + ((UInt8.ofNat (48 + n / 10)).toNat - 48)) + ((UInt8.ofNat (48 + n % 10)).toNat - 48) = n
 rw [chr_nat (by omega), chr_nat (by omega)]; omega
theorem uint_dg : ∀ (l : List UInt8) (a : Nat), (∀ c ∈ l, isDg c) → l.foldl (fun k c => 10 * k + (c.toNat - 48)) a ≤ 100000 → Lib.parseUint10 a l = .ok (l.foldl (fun k c => 10 * k + (c.toNat - 48)) a)
 | [], a, _, _ => rfl
 | c :: l, a, h, hle => by
  have hc : 48 ≤ c.toNat ∧ c.toNat ≤ 57 := h c (by simp)
  have hm : ∀ (l : List UInt8) (a : Nat), a ≤ l.foldl (fun k c => 10 * k + (c.toNat - 48)) a := by
   intro l
   induction l with
   | nil => intro a; exact Nat.le_refl _
   | cons x l ih => intro a; rw [List.foldl_cons]; exact Nat.le_trans (by omega) (ih (10 * a + (x.toNat - 48)))
  have hb := hm l (10 * a + (c.toNat - 48))
  rw [List.foldl_cons] at hle
  rw [Lib.parseUint10, if_pos hc, if_neg (by omega), if_neg (by omega), List.foldl_cons, show a * 10 + (c.toNat - 48) = 10 * a + (c.toNat - 48) by omega]
  exact uint_dg l _ (fun c hc => h c (by simp [hc])) hle
theorem atV_dg {l : List UInt8} (h : ∀ c ∈ l, isDg c) (h0 : l ≠ []) (hv : dgV l ≤ 100000) : atV l = dgV l := by
 cases l with
 | nil => exact absurd rfl h0
 | cons c r =>
  have hc := h c (by simp)
  unfold isDg at hc
  have e : Lib.atoiAll (c :: r) = .ok ((dgV (c :: r) : Nat) : Int) := by
   rw [Lib.atoiAll_plain c r (by omega) (by omega), Lib.parseMag, if_neg (by simp), uint_dg _ _ h hv]
   show Lib.signless (.ok (dgV (c :: r))) = _
   simp [Lib.signless]; omega
  rw [atV, e]
end Go.Proofs.YthppifcggmdmoaaGreatDoor

namespace Go.Proofs.YthppifcggmdmoaaGreatDoor
set_option linter.unusedVariables false
def cf (k : Nat) : Nat := if k = 0 then 3600 else if k = 1 then 60 else 1
def accW (ws : List (List UInt8)) : Nat → Nat
 | 0 => 0
 | k + 1 => accW ws k + dgV (ws.getD k []) * cf k
theorem accW_le (ws : List (List UInt8)) {j k : Nat} (h : j ≤ k) : accW ws j ≤ accW ws k := by
 induction h with
 | refl => exact Nat.le_refl _
 | step h ih => exact Nat.le_trans ih (by rw [accW]; omega)
structure GoodW (ws : List (List UInt8)) (m : Nat) : Prop where
 pos : 1 ≤ ws.length
 len : ws.length ≤ 3
 dg : ∀ k, k < ws.length → ∀ c ∈ ws.getD k [], isDg c
 val : ∀ k, k < ws.length → dgV (ws.getD k []) ≤ 999
 one : 1 ≤ (ws.getD 0 []).length ∧ (ws.getD 0 []).length ≤ 3
 two : ∀ k, 0 < k → k < ws.length → (ws.getD k []).length = 2
 sum : accW ws ws.length = m
 max : m ≤ 604800
theorem GoodW.ne {ws : List (List UInt8)} {m k : Nat} (h : GoodW ws m) (hk : k < ws.length) : ws.getD k [] ≠ [] := by
 intro e
 rcases Nat.eq_zero_or_pos k with rfl | h0
 ·have := h.one; rw [e] at this; simp at this
 ·have := h.two k h0 hk; rw [e] at this; simp at this
theorem GoodW.at {ws : List (List UInt8)} {m k : Nat} (h : GoodW ws m) (hk : k < ws.length) : atV (ws.getD k []) = dgV (ws.getD k []) :=
 atV_dg (h.dg k hk) (h.ne hk) (Nat.le_trans (h.val k hk) (by omega))
theorem dg_colon {l : List UInt8} (h : ∀ c ∈ l, isDg c) : (58 : UInt8) ∉ l := fun e => by have := h _ e; unfold isDg at this; revert this; decide
theorem dec_pos (n : Nat) : 1 ≤ (Lib.decDigits n).length := by
 by_cases h : n < 10
 ·rw [dec_small h]; simp
 ·rw [dec_more h]; simp
theorem span_words (m : Nat) : lSplit 58 (spanT m).data.toList = if m % 60 = 0 then [Lib.decDigits (m / 3600), (twoB (m / 60 % 60)).data.toList] else [Lib.decDigits (m / 3600), (twoB (m / 60 % 60)).data.toList, (twoB (m % 60)).data.toList] := by
 have d1 := dg_colon (dec_dg (m / 3600))
 have d2 := dg_colon (two_dg (show m / 60 % 60 < 100 by omega))
 have d3 := dg_colon (two_dg (show m % 60 < 100 by omega))
 by_cases h : m % 60 = 0
 ·rw [if_pos h, span_0 h]
  have e : (digB (m / 3600) ++ ⟨#[58]⟩ ++ twoB (m / 60 % 60)).data.toList = Lib.decDigits (m / 3600) ++ 58 :: (twoB (m / 60 % 60)).data.toList := by simp [digB]
  rw [e, lSplit_join _ d1, lSplit_no d2]
 ·rw [if_neg h, span_1 h]
  have e : (digB (m / 3600) ++ ⟨#[58]⟩ ++ twoB (m / 60 % 60) ++ (⟨#[58]⟩ ++ twoB (m % 60))).data.toList = Lib.decDigits (m / 3600) ++ 58 :: ((twoB (m / 60 % 60)).data.toList ++ 58 :: (twoB (m % 60)).data.toList) := by simp [digB]
  rw [e, lSplit_join _ d1, lSplit_join _ d2, lSplit_no d3]
theorem good_span {m : Nat} (hm : m ≤ 604800) : GoodW (lSplit 58 (spanT m).data.toList) m := by
 have v1 := dec_val (m / 3600)
 have v2 := two_val (show m / 60 % 60 < 100 by omega)
 have v3 := two_val (show m % 60 < 100 by omega)
 have g1 := dec_dg (m / 3600)
 have g2 := two_dg (show m / 60 % 60 < 100 by omega)
 have g3 := two_dg (show m % 60 < 100 by omega)
 have l1 := dec_pos (m / 3600)
 have l2 := dec_len3 (show m / 3600 < 1000 by omega)
 rw [span_words]
 by_cases h : m % 60 = 0
 ·rw [if_pos h]
  refine ⟨by simp, by simp, ?_, ?_, ⟨l1, l2⟩, ?_, ?_, hm⟩
  ·intro k hk
   match k, hk with
   | 0, _ => exact g1
   | 1, _ => exact g2
  ·intro k hk
   match k, hk with
   | 0, _ => show dgV (Lib.decDigits _) ≤ 999; omega
   | 1, _ => show dgV (twoB _).data.toList ≤ 999; omega
  ·intro k h0 hk
   match k, hk with
   | 1, _ => rfl
  ·show 0 + dgV (Lib.decDigits (m / 3600)) * 3600 + dgV (twoB (m / 60 % 60)).data.toList * 60 = m
   rw [v1, v2]; omega
 ·rw [if_neg h]
  refine ⟨by simp, by simp, ?_, ?_, ⟨l1, l2⟩, ?_, ?_, hm⟩
  ·intro k hk
   match k, hk with
   | 0, _ => exact g1
   | 1, _ => exact g2
   | 2, _ => exact g3
  ·intro k hk
   match k, hk with
   | 0, _ => show dgV (Lib.decDigits _) ≤ 999; omega
   | 1, _ => show dgV (twoB _).data.toList ≤ 999; omega
   | 2, _ => show dgV (twoB _).data.toList ≤ 999; omega
  ·intro k h0 hk
   match k, hk with
   | 1, _ => rfl
   | 2, _ => rfl
  ·show 0 + dgV (Lib.decDigits (m / 3600)) * 3600 + dgV (twoB (m / 60 % 60)).data.toList * 60 + dgV (twoB (m % 60)).data.toList * 1 = m
   rw [v1, v2, v3]; omega
def wordsOf (s : ByteArray) : List (List UInt8) := lSplit 58 (Lib.trimPrefix s.data.toList [45])
def negOf (s : ByteArray) : Bool := Lib.hasPrefix s.data.toList [45]
def sgnV (b : Bool) (m : Int) : Int := if b = true then -m else m
theorem span_head (m : Nat) : ∃ c r, (spanT m).data.toList = c :: r ∧ isDg c := by
 have hd : ∃ c r, Lib.decDigits (m / 3600) = c :: r ∧ isDg c := by
  cases e : Lib.decDigits (m / 3600) with
  | nil => have := dec_pos (m / 3600); rw [e] at this; simp at this
  | cons c r => exact ⟨c, r, rfl, dec_dg (m / 3600) c (by rw [e]; simp)⟩
 obtain ⟨c, r, h1, h2⟩ := hd
 have e0 : (digB (m / 3600)).data.toList = c :: r := by simp [digB, h1]
 by_cases h : m % 60 = 0
 ·rw [span_0 h]; exact ⟨c, _, by simp [e0]; rfl, h2⟩
 ·rw [span_1 h]; exact ⟨c, _, by simp [e0]; rfl, h2⟩
theorem rd_good {n : Int} (ho : spOk n = true) : ∃ m, GoodW (wordsOf (spV n)) m ∧ n = sgnV (negOf (spV n)) m := by
 obtain ⟨h1, h2⟩ := spOk_iff.1 ho
 by_cases h0 : n < 0
 ·obtain ⟨m, rfl⟩ : ∃ m : Nat, n = -(m : Int) := ⟨n.natAbs, by omega⟩
  have e := (spV_neg (m := m) (by omega) (by omega)).1
  have hn : negOf (spV (-(m : Int))) = true := by rw [negOf, e]; simp [Lib.hasPrefix]
  have hw : wordsOf (spV (-(m : Int))) = lSplit 58 (spanT m).data.toList := by rw [wordsOf, e]; simp [Lib.trimPrefix, Lib.hasPrefix]
  refine ⟨m, ?_, ?_⟩
  ·rw [hw]; exact good_span (by omega)
  ·rw [hn]; rfl
 ·obtain ⟨m, rfl⟩ : ∃ m : Nat, n = (m : Int) := ⟨n.natAbs, by omega⟩
  have e := (spV_pos (m := m) (by omega)).1
  obtain ⟨c, r, hc, hd⟩ := span_head m
  have hne : c ≠ 45 := by intro e; rw [e] at hd; unfold isDg at hd; revert hd; decide
  have hn : negOf (spV (m : Int)) = false := by rw [negOf, e, hc]; exact Bool.eq_false_iff.2 (fun h => by simp [Lib.hasPrefix] at h; exact hne h.symm)
  have hw : wordsOf (spV (m : Int)) = lSplit 58 (spanT m).data.toList := by
   rw [wordsOf, e]
   have : Lib.hasPrefix (spanT m).data.toList [45] = false := by rw [negOf, e] at hn; exact hn
   rw [Lib.trimPrefix, this]; rfl
  refine ⟨m, ?_, ?_⟩
  ·rw [hw]; exact good_span (by omega)
  ·rw [hn]; rfl
def RdIs (s : ByteArray) (a b : Int) : Prop := (spOk a = true ∧ spV a = s ∧ b = 0) ∨ ((∀ n, spOk n = true → spV n ≠ s) ∧ a = 0 ∧ b = 3)
theorem RdIs.one {s : ByteArray} {a b a' b' : Int} (h : RdIs s a b) (h' : RdIs s a' b') : a = a' ∧ b = b' := by
 rcases h with ⟨h1, h2, rfl⟩ | ⟨h1, rfl, rfl⟩
 ·rcases h' with ⟨h3, h4, rfl⟩ | ⟨h3, _, _⟩
  ·obtain ⟨m, g1, g2⟩ := rd_good h1
   obtain ⟨m', g3, g4⟩ := rd_good h3
   rw [h2] at g1 g2
   rw [h4] at g3 g4
   have : m = m' := g1.sum.symm.trans g3.sum
   exact ⟨by rw [g2, g4, this], rfl⟩
  ·exact absurd h2 (h3 a h1)
 ·rcases h' with ⟨h3, h4, rfl⟩ | ⟨_, rfl, rfl⟩
  ·exact absurd h4 (h1 a' h3)
  ·exact ⟨rfl, rfl⟩
end Go.Proofs.YthppifcggmdmoaaGreatDoor

