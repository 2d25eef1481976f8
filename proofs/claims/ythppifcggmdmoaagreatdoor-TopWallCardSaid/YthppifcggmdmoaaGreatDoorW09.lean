/- Part 9 of the proof of TopWall: no condition; what its declarations say stands at each. -/
import Derived.Test.YthppifcggmdmoaaGreatDoorW06
import Derived.Test.YthppifcggmdmoaaGreatDoorW08
import Derived.Handed
import Derived.HandedShaped
import Derived.Test.YthppifcggmdmoaaGreatDoorW03
import Derived.Lib.Join
import Derived.Lib.CutLaws
import Derived.Lib.SlicesS
namespace Go.Proofs.YthppifcggmdmoaaGreatDoor
open Go.ChangeShapes Go.WideShapes Go.ChangeAt Go.RowKit
set_option linter.unusedVariables false
theorem er_of_laid {W : World} {r : List (String × DataW Unit)} (h : laidMet Tryz.prog (("strconv.ErrRange", Rows.laid_strconv_ErrRange) :: r) W) : ∃ te pe, W.cell? ⟨5, 0, none⟩ = some (.iface te pe) := by
 obtain ⟨a, s, hv, _⟩ := laid_sentinel (g := 5) h (by kernel_rfl) (by kernel_rfl) Tryz.underlying159 row_es Tryz.underlying256 Tryz.underlying258 rfl rfl Tryz.underlying9 (by kernel_rfl) (by kernel_rfl)
 have := World.var?_cell (show Tryz.prog.globalNamed "strconv.ErrRange" = some 5 by kernel_rfl) hv 0
 exact ⟨_, _, by simpa using this⟩
theorem rd_empty {a b : Int} (h : RdIs ⟨#[]⟩ a b) : a = 0 ∧ b = 3 := by
 rcases h with ⟨h1, h2, rfl⟩ | ⟨_, rfl, rfl⟩
 ·obtain ⟨m, G, _⟩ := rd_good h1
  rw [h2] at G
  have := G.one.1
  exact absurd this (by decide)
 ·exact ⟨rfl, rfl⟩
structure RdW (w : World) : Prop where
 es : ∃ te pe, w.cell? ⟨4, 0, none⟩ = some (.iface te pe)
 er : ∃ te pe, w.cell? ⟨5, 0, none⟩ = some (.iface te pe)
 it : ∀ h, h < 1000000 → ItoaIn w h
theorem RdW.on {w w' : World} (h : RdW w) (hb : Below w.heap.size w w') : RdW w' := by
 obtain ⟨⟨t1, p1, h1⟩, ⟨t2, p2, h2⟩, h3⟩ := h
 exact ⟨⟨t1, p1, (hb.cell (show (⟨4, 0, none⟩ : Addr).block < w.heap.size from Lib.lt_of_cell h1)).trans h1⟩, ⟨t2, p2, (hb.cell (show (⟨5, 0, none⟩ : Addr).block < w.heap.size from Lib.lt_of_cell h2)).trans h2⟩, fun h hh => (h3 h hh).on hb⟩
theorem RdW.span {w : World} (H : RdW w) (s : ByteArray) (hs : s.size < 4294967281) :
  Calls Tryz.prog 95 #[.string s] w fun e w' => ∃ a b, e = .returned (.tuple #[.int .i64 a, .int .i64 b]) ∧ RdIs s a b ∧ Below w.heap.size w w' := by
 obtain ⟨⟨t1, p1, h1⟩, ⟨t2, p2, h2⟩, h3⟩ := H
 exact k_ReadSpan s hs t1 t2 p1 p2 w h1 h2 h3
theorem RdW.empty {w : World} (H : RdW w) :
  Calls Tryz.prog 95 #[.string ⟨#[]⟩] w fun e w' => e = .returned (.tuple #[.int .i64 0, .int .i64 3]) ∧ Below w.heap.size w w' := by
 refine (H.span ⟨#[]⟩ (by decide)).mono ?_
 rintro e w' ⟨a, b, rfl, h, hb⟩
 obtain ⟨rfl, rfl⟩ := rd_empty h
 exact ⟨rfl, hb⟩
end Go.Proofs.YthppifcggmdmoaaGreatDoor

namespace Go.Proofs.YthppifcggmdmoaaGreatDoor
open Go
set_option linter.unusedVariables false
theorem lift_shaped {H : Type} {enc : TypeId × Value → H} {a : Assume} {C : Checked} {os : Os} {f : FuncId} {fn : Func} {s : ChangeSpec} {conds : List PathCond} {apart fresh handsOn again : Bool} {X : World → Array Value → Prop}
  (hX : ∀ (w w' : World) (args : Array Value), w.heap = w'.heap → X w args → X w' args)
  (own : ownKnob C.prog.godebug = none) (started : os.Started) (noInit : C.prog.inits.idxOf? f = none) (hfn : C.prog.funcs[f]? = some fn)
  (witness : ∃ (w : World) (tape : Tape) (i : Input), w.os = os ∧ (w.forCall tape i).Shaped C.prog ∧ i.vars = [] ∧ Input.okWide C.prog (w.forCall tape i) .any w.heap.size f i ∧
   ((s.pre enc C.prog fn conds apart (w.forCall tape i).memory i.args ∧ X (w.forCall tape i).memory i.args) ∧ sizedMet enc C.prog fn (OpenSpec.ofChange s) apart (w.forCall tape i).memory i.args) ∧ a.holds C.prog (lone (Frame.enter C.prog f i.args .normal) [] (w.forCall tape i)))
  (contract : ∀ (W : World) (base : Nat) (args : Array Value) (ds gs : List (DataW H)) (before : List MemPlace),
   (∀ (j : Nat) t v, fn.params[j]? = some t → args[j]? = some v → Value.okWide C.prog W .any base t v) →
   DataW.Whole enc C.prog fn.params.toList s.vars apart W args.toList ds gs before →
   X W args → W.ShapedOpen C.prog →
   Calls C.prog f args W fun e W' => ∃ v, e = .returned v ∧ s.post enc C.prog fn apart fresh handsOn again W args v W') :
  ReturnsInHanded a C os f .any (fun w args => (s.pre enc C.prog fn conds apart w args ∧ X w args) ∧ sizedMet enc C.prog fn (OpenSpec.ofChange s) apart w args) (s.post enc C.prog fn apart fresh handsOn again) := by
 refine returnsInHanded_of_calls own started noInit witness ?_
 intro w tape i _ hsh _ hok hpre hholds
 obtain ⟨_, _, _, fn', hfn', _, _, _, _, hval⟩ := hok
 obtain rfl : fn' = fn := Option.some.inj (hfn'.symm.trans hfn)
 obtain ⟨⟨⟨ds, gs, before, hw, hc⟩, hx⟩, hz⟩ := hpre
 refine (contract (w.forCall tape i) w.heap.size i.args ds gs before hval (DataW.Whole.of_heap (w' := w.forCall tape i) (by rfl) hw) (hX _ _ _ (by rfl) hx) hsh).mono fun e W' ⟨v, he, hp⟩ => ?_
 subst he
 exact ChangeSpec.post_blind hp
end Go.Proofs.YthppifcggmdmoaaGreatDoor

namespace Go.Proofs.YthppifcggmdmoaaGreatDoor
set_option linter.unusedVariables false
def byT (b : Int) : ByteArray := if b = 0 then ⟨#[]⟩ else if b = 1 then ⟨#[115]⟩ else ⟨#[117]⟩
def rxW (name DF DT DM ON AT BY SV letter : ByteArray) : ByteArray :=
 ⟨#[114, 117, 108, 101, 32]⟩ ++ name ++ ⟨#[32]⟩ ++ DF ++ ⟨#[32]⟩ ++ DT ++ ⟨#[32]⟩ ++ DM ++ ⟨#[32]⟩ ++ ON ++ ⟨#[32]⟩ ++ AT ++ BY ++ ⟨#[32]⟩ ++ SV ++ ⟨#[32]⟩ ++ letter
def rxT (name letter : ByteArray) (f t m k wd n a b sv : Int) : ByteArray :=
 rxW name ⟨(Lib.decDigits f.toNat).toArray⟩ ⟨(Lib.decDigits t.toNat).toArray⟩ ⟨(Lib.decDigits m.toNat).toArray⟩ (dtV k wd n) (spV a) (byT b) (spV sv) letter
def rxV (name letter : ByteArray) (f t m k wd n a b sv : Int) : ByteArray := if ruleE name letter f t m k wd n a b sv = 0 then rxT name letter f t m k wd n a b sv else ⟨#[]⟩
theorem rx_join (name DF DT DM ON AT BY SV letter : ByteArray) :
  (⟨(Lib.join ([⟨#[114, 117, 108, 101]⟩, name, DF, DT, DM, ON, AT ++ BY, SV, letter].map (·.data.toList)) (⟨#[32]⟩ : ByteArray).data.toList).toArray⟩ : ByteArray) = rxW name DF DT DM ON AT BY SV letter := by
 apply ByteArray.ext
 apply Array.toList_inj.1
 simp [rxW, Lib.join, List.intercalate, ByteArray.data_append]
theorem rx_len (name DF DT DM ON AT BY SV letter : ByteArray) (h : name.size ≤ 100 ∧ DF.size ≤ 100 ∧ DT.size ≤ 100 ∧ DM.size ≤ 100 ∧ ON.size ≤ 100 ∧ AT.size ≤ 100 ∧ BY.size ≤ 100 ∧ SV.size ≤ 100 ∧ letter.size ≤ 100) :
  (Lib.join ([⟨#[114, 117, 108, 101]⟩, name, DF, DT, DM, ON, AT ++ BY, SV, letter].map (·.data.toList)) (⟨#[32]⟩ : ByteArray).data.toList).length ≤ 140737488355328 := by
 have e := congrArg ByteArray.size (rx_join name DF DT DM ON AT BY SV letter)
 have e2 : ∀ l : List UInt8, (⟨l.toArray⟩ : ByteArray).size = l.length := fun l => by simp [ByteArray.size]
 rw [e2] at e
 rw [e, rxW]
 have h1 : (⟨#[114, 117, 108, 101, 32]⟩ : ByteArray).size = 5 := rfl
 have h2 : (⟨#[32]⟩ : ByteArray).size = 1 := rfl
 simp only [ByteArray.size_append, h1, h2]
 omega
theorem sp_sz (n : Int) : (spV n).size ≤ 21 := by
 rw [spV]
 split
 ·rename_i h
  have hr := spOk_iff.1 h
  have h3 := dec_len3 (show n.natAbs / 3600 < 1000 by omega)
  have hs : ∀ n, (twoB n).size = 2 := fun _ => rfl
  have hd : (digB (n.natAbs / 3600)).size = (Lib.decDigits (n.natAbs / 3600)).length := dec_size _
  have h1 : (⟨#[58]⟩ : ByteArray).size = 1 := rfl
  have h2 : (⟨#[45]⟩ : ByteArray).size = 1 := rfl
  have hz : (spanT n.natAbs).size ≤ 20 := by
   rw [spanT]
   split
   ·rw [ByteArray.size_append, ByteArray.size_append, hs, hd, h1]; omega
   ·rw [ByteArray.size_append, ByteArray.size_append, ByteArray.size_append, ByteArray.size_append, hs, hs, hd, h1]; omega
  split
  ·rw [ByteArray.size_append, h2]; omega
  ·omega
 ·exact Nat.zero_le _
theorem dt_sz (k wd n : Int) : (dtV k wd n).size ≤ 7 := by
 cases h : dcOk k wd n with
 | false => rw [dtV_no h]; exact Nat.zero_le _
 | true =>
  rw [dtV_ok h]
  obtain ⟨hk, ⟨j, rfl, hj⟩, m, rfl, hm⟩ := day_cases h
  have hw : (wordV j).size = 3 := word_sz (by omega)
  have hd : (digV (m : Int)).size ≤ 2 := dig_size (n := m) (by omega)
  have h1 : (⟨#[108, 97, 115, 116]⟩ : ByteArray).size = 4 := rfl
  have h2 : (⟨#[62, 61]⟩ : ByteArray).size = 2 := rfl
  have h3 : (⟨#[60, 61]⟩ : ByteArray).size = 2 := rfl
  rcases hk with rfl | rfl | rfl | rfl
  ·rw [dtT_1]; omega
  ·rw [dtT_2]; simp only [ByteArray.size_append, hw, h1]; omega
  ·rw [dtT_3]; simp only [ByteArray.size_append, hw, h2]; omega
  ·rw [dtT_4]; simp only [ByteArray.size_append, hw, h3]; omega
theorem dg_sz {n : Nat} (h : n < 10000) : (⟨(Lib.decDigits n).toArray⟩ : ByteArray).size ≤ 4 := by
 rw [dec_size]
 by_cases h1 : n < 1000
 ·have := dec_len3 h1; omega
 ·rw [dec_more (by omega), List.length_append]
  have := dec_len3 (show n / 10 < 1000 by omega)
  simp only [List.length_cons, List.length_nil]; omega
theorem by_sz (b : Int) : (byT b).size ≤ 1 := by
 unfold byT; split
 ·exact Nat.zero_le _
 ·split <;> exact Nat.le_refl _
theorem all_sz {most : Nat} {o : List UInt8} {q : ByteArray} (h : allB most o q.data.toList = true) : q.size ≤ most := by
 rw [allB, Bool.and_eq_true, decide_eq_true_eq] at h
 have : q.data.toList.length = q.size := Array.length_toList
 omega
theorem rule_ok {name letter : ByteArray} {f t m k wd n a b sv : Int} (h : ruleE name letter f t m k wd n a b sv = 0) :
  name.size ≤ 20 ∧ letter.size ≤ 8 ∧ (1900 ≤ f ∧ f ≤ 2100 ∧ f ≤ t ∧ t ≤ 2100 ∧ 1 ≤ m ∧ m ≤ 12) ∧ dcOk k wd n = true ∧ (-604800 ≤ a ∧ a ≤ 604800 ∧ 0 ≤ b ∧ b ≤ 2 ∧ 0 ≤ sv ∧ sv ≤ 10800) := by
 cases hs : ruleS name letter with
 | false => rw [ruleE_3 hs] at h; cases h
 | true =>
  cases hn : ruleN f t m k wd n a b sv with
  | false => rw [ruleE_1 hs hn] at h; cases h
  | true =>
   obtain ⟨h1, h2, h3⟩ := ruleN_iff.1 hn
   rw [ruleS, Bool.and_eq_true, Bool.or_eq_true] at hs
   obtain ⟨s1, s2⟩ := hs
   rw [isNameB, Bool.and_eq_true] at s1
   refine ⟨all_sz s1.1, ?_, h1, h2, by omega⟩
   rcases s2 with s2 | s2
   ·have e := eq_of_beq s2
    have : letter.size = letter.toList.length := by rw [ByteArray.toList_eq]; exact Array.length_toList.symm
    rw [this, e]; decide
   ·exact all_sz s2
end Go.Proofs.YthppifcggmdmoaaGreatDoor

namespace Go.Proofs.YthppifcggmdmoaaGreatDoor
set_option linter.unusedVariables false
theorem index_miss {x y : UInt8} : ∀ {l : List UInt8}, x ∉ l → Lib.index l [x, y] = -1
 | [], _ => rfl
 | b :: l, h => by
  have h1 : (x == b) = false := by rw [beq_eq_false_iff_ne]; intro e; exact h (by simp [e])
  have h2 : x ∉ l := fun e => h (by simp [e])
  rw [Lib.index, index_miss h2]
  simp [List.isPrefixOf, h1]
theorem index_hit {x y : UInt8} (d : List UInt8) : ∀ {a : List UInt8}, x ∉ a → Lib.index (a ++ x :: y :: d) [x, y] = a.length
 | [], _ => by rw [List.nil_append, Lib.index]; simp [List.isPrefixOf]
 | b :: l, h => by
  have h1 : (x == b) = false := by rw [beq_eq_false_iff_ne]; intro e; exact h (by simp [e])
  have h2 : x ∉ l := fun e => h (by simp [e])
  rw [List.cons_append, Lib.index, index_hit d h2]
  simp [List.isPrefixOf, h1]
theorem cut_miss {x y : UInt8} {l : List UInt8} (h : x ∉ l) : Lib.cut l [x, y] = (l, [], false) := by
 unfold Lib.cut
 rw [index_miss h, if_neg (by omega)]
theorem cut_hit {x y : UInt8} {a d : List UInt8} (h : x ∉ a) : Lib.cut (a ++ x :: y :: d) [x, y] = (a, d, true) := by
 unfold Lib.cut
 rw [index_hit d h, if_pos (by omega)]
 simp
def wordL (wd : Int) : List UInt8 := (wordV wd).data.toList
def digL (n : Int) : List UInt8 := Lib.decDigits n.toNat
theorem wordL_is {wd : Int} (h : 0 ≤ wd ∧ wd ≤ 6) : ∃ a b c, wordL wd = [a, b, c] ∧ 65 ≤ a.toNat ∧ 65 ≤ b.toNat ∧ 65 ≤ c.toNat ∧ a ≠ 108 := by
 obtain ⟨j, rfl, hj⟩ : ∃ j : Nat, wd = j ∧ j ≤ 6 := ⟨wd.toNat, by omega, by omega⟩
 rcases (show j = 0 ∨ j = 1 ∨ j = 2 ∨ j = 3 ∨ j = 4 ∨ j = 5 ∨ j = 6 by omega) with rfl | rfl | rfl | rfl | rfl | rfl | rfl
 all_goals exact ⟨_, _, _, rfl, by decide, by decide, by decide, by decide⟩
theorem dec_pos' (n : Nat) : 1 ≤ (Lib.decDigits n).length := by
 by_cases h : n < 10
 ·rw [dec_small h]; simp
 ·rw [dec_more h]; simp
theorem digL_dg (n : Int) : ∀ c ∈ digL n, isDg c := dec_dg _
theorem digL_val {n : Int} (h : 0 ≤ n ∧ n ≤ 31) : atV (digL n) = n := by
 have e := dec_val n.toNat
 rw [digL, atV_dg (dec_dg _) (by intro e; have := dec_pos' n.toNat; rw [e] at this; simp at this) (by omega), e]
 omega
def dtL (k wd n : Int) : List UInt8 := if k = 2 then 108 :: 97 :: 115 :: 116 :: wordL wd else if k = 3 then wordL wd ++ 62 :: 61 :: digL n else if k = 4 then wordL wd ++ 60 :: 61 :: digL n else digL n
theorem dtL_eq {k wd n : Int} (h : dcOk k wd n = true) : (dtV k wd n).data.toList = dtL k wd n := by
 rw [dtV_ok h, dtT, dtL]
 split
 ·simp [wordL]
 ·split
  ·simp [wordL, digL, digV]
  ·split
   ·simp [wordL, digL, digV]
   ·simp [digL, digV]
theorem no_sign {x : UInt8} (hx : x = 60 ∨ x = 62) {k wd n : Int} (h : dcOk k wd n = true) : x ∉ wordL wd ∧ x ∉ digL n := by
 constructor
 ·intro hm
  have hw : 0 ≤ wd ∧ wd ≤ 6 := by have := dcOk_iff.1 h; omega
  obtain ⟨a, b, c, e, h1, h2, h3, _⟩ := wordL_is hw
  rw [e] at hm
  simp at hm
  have hx' : x.toNat < 65 := by rcases hx with rfl | rfl <;> decide
  rcases hm with rfl | rfl | rfl <;> omega
 ·intro hm
  have := digL_dg n x hm
  unfold isDg at this
  rcases hx with rfl | rfl <;> revert this <;> decide
theorem no_last {x : UInt8} (hx : x = 60 ∨ x = 62) {l : List UInt8} (h : x ∉ l) : x ∉ 108 :: 97 :: 115 :: 116 :: l := by
 simp
 refine ⟨?_, ?_, ?_, ?_, h⟩ <;> rcases hx with rfl | rfl <;> decide
theorem cut_ge {k wd n : Int} (h : dcOk k wd n = true) : (k = 3 → Lib.cut (dtL k wd n) [62, 61] = (wordL wd, digL n, true)) ∧ (k ≠ 3 → (Lib.cut (dtL k wd n) [62, 61]).2.2 = false) := by
 obtain ⟨h1, h2⟩ := no_sign (x := 62) (Or.inr rfl) h
 obtain ⟨h3, h4⟩ := no_sign (x := 60) (Or.inl rfl) h
 refine ⟨fun e => ?_, fun e => ?_⟩
 ·subst e; exact cut_hit h1
 ·have : (62 : UInt8) ∉ dtL k wd n := by
   rcases day_cases h with ⟨hk, _⟩
   rcases hk with rfl | rfl | rfl | rfl
   ·exact h2
   ·exact no_last (Or.inr rfl) h1
   ·exact absurd rfl e
   ·show (62 : UInt8) ∉ wordL wd ++ _ :: 61 :: digL n
    simp; exact ⟨h1, h2⟩
  rw [cut_miss this]
theorem cut_le {k wd n : Int} (h : dcOk k wd n = true) : (k = 4 → Lib.cut (dtL k wd n) [60, 61] = (wordL wd, digL n, true)) ∧ (k ≠ 4 → (Lib.cut (dtL k wd n) [60, 61]).2.2 = false) := by
 obtain ⟨h1, h2⟩ := no_sign (x := 62) (Or.inr rfl) h
 obtain ⟨h3, h4⟩ := no_sign (x := 60) (Or.inl rfl) h
 refine ⟨fun e => ?_, fun e => ?_⟩
 ·subst e; exact cut_hit h3
 ·have : (60 : UInt8) ∉ dtL k wd n := by
   rcases day_cases h with ⟨hk, _⟩
   rcases hk with rfl | rfl | rfl | rfl
   ·exact h4
   ·exact no_last (Or.inl rfl) h3
   ·show (60 : UInt8) ∉ wordL wd ++ _ :: 61 :: digL n
    simp; exact ⟨h3, h4⟩
   ·exact absurd rfl e
  rw [cut_miss this]
theorem pre_last {k wd n : Int} (h : dcOk k wd n = true) : (k = 2 → Lib.hasPrefix (dtL k wd n) [108, 97, 115, 116] = true ∧ Lib.trimPrefix (dtL k wd n) [108, 97, 115, 116] = wordL wd) ∧ (k ≠ 2 → Lib.hasPrefix (dtL k wd n) [108, 97, 115, 116] = false) := by
 have hw : 0 ≤ wd ∧ wd ≤ 6 := by have := dcOk_iff.1 h; omega
 obtain ⟨a, b, c, ew, _, _, _, h4⟩ := wordL_is hw
 have h5 : ((108 : UInt8) == a) = false := by rw [beq_eq_false_iff_ne]; exact fun e => h4 e.symm
 refine ⟨fun e => ?_, fun e => ?_⟩
 ·subst e; exact ⟨rfl, rfl⟩
 ·have hd : Lib.hasPrefix (digL n) [108, 97, 115, 116] = false := by
   cases e : digL n with
   | nil => rfl
   | cons x r =>
    have := digL_dg n x (by rw [e]; simp)
    have h6 : ((108 : UInt8) == x) = false := by rw [beq_eq_false_iff_ne]; rintro rfl; unfold isDg at this; revert this; decide
    simp [Lib.hasPrefix, List.isPrefixOf, h6]
  unfold dtL
  rw [if_neg e, ew]
  split
  ·simp [Lib.hasPrefix, List.isPrefixOf, h5]
  ·split
   ·simp [Lib.hasPrefix, List.isPrefixOf, h5]
   ·exact hd
def dayB : List ByteArray := [⟨#[83, 117, 110]⟩, ⟨#[77, 111, 110]⟩, ⟨#[84, 117, 101]⟩, ⟨#[87, 101, 100]⟩, ⟨#[84, 104, 117]⟩, ⟨#[70, 114, 105]⟩, ⟨#[83, 97, 116]⟩]
def wkI (l : List UInt8) : Int := Lib.idxOfS dayB ⟨l.toArray⟩
theorem wkI_word {wd : Int} (h : 0 ≤ wd ∧ wd ≤ 6) : wkI (wordL wd) = wd := by
 obtain ⟨j, rfl, hj⟩ : ∃ j : Nat, wd = j ∧ j ≤ 6 := ⟨wd.toNat, by omega, by omega⟩
 rcases (show j = 0 ∨ j = 1 ∨ j = 2 ∨ j = 3 ∨ j = 4 ∨ j = 5 ∨ j = 6 by omega) with rfl | rfl | rfl | rfl | rfl | rfl | rfl
 all_goals rfl
def RdDy (s : ByteArray) (k wd n er : Int) : Prop := (dcOk k wd n = true ∧ dtV k wd n = s ∧ er = 0) ∨ ((∀ k wd n, dcOk k wd n = true → dtV k wd n ≠ s) ∧ k = 0 ∧ wd = 0 ∧ n = 0 ∧ er = 3)
theorem dt_one {k wd n k' wd' n' : Int} (h : dcOk k wd n = true) (h' : dcOk k' wd' n' = true) (e : dtV k wd n = dtV k' wd' n') : k = k' ∧ wd = wd' ∧ n = n' := by
 have e0 : dtL k wd n = dtL k' wd' n' := by rw [← dtL_eq h, ← dtL_eq h', e]
 have a := dcOk_iff.1 h
 have a' := dcOk_iff.1 h'
 have c1 := cut_ge h; have c2 := cut_ge h'; have d1 := cut_le h; have d2 := cut_le h'; have p1 := pre_last h; have p2 := pre_last h'
 rw [e0] at c1 d1 p1
 have hk : k = k' := by
  have x3 : k = 3 ↔ k' = 3 := by
   constructor
   ·intro q; refine Classical.byContradiction fun q' => ?_
    have := c2.2 q'; rw [c1.1 q] at this; cases this
   ·intro q; refine Classical.byContradiction fun q' => ?_
    have := c1.2 q'; rw [c2.1 q] at this; cases this
  have x4 : k = 4 ↔ k' = 4 := by
   constructor
   ·intro q; refine Classical.byContradiction fun q' => ?_
    have := d2.2 q'; rw [d1.1 q] at this; cases this
   ·intro q; refine Classical.byContradiction fun q' => ?_
    have := d1.2 q'; rw [d2.1 q] at this; cases this
  have x2 : k = 2 ↔ k' = 2 := by
   constructor
   ·intro q; refine Classical.byContradiction fun q' => ?_
    have := p2.2 q'; rw [(p1.1 q).1] at this; cases this
   ·intro q; refine Classical.byContradiction fun q' => ?_
    have := p1.2 q'; rw [(p2.1 q).1] at this; cases this
  omega
 subst hk
 have hn : digL n = digL n' → 0 ≤ n ∧ n ≤ 31 → 0 ≤ n' ∧ n' ≤ 31 → n = n' := fun q r r' => by rw [← digL_val r, ← digL_val r', q]
 have hw : wordL wd = wordL wd' → 0 ≤ wd ∧ wd ≤ 6 → 0 ≤ wd' ∧ wd' ≤ 6 → wd = wd' := fun q r r' => by rw [← wkI_word r, ← wkI_word r', q]
 rcases (show k = 1 ∨ k = 2 ∨ k = 3 ∨ k = 4 by omega) with rfl | rfl | rfl | rfl
 ·have q : digL n = digL n' := e0
  exact ⟨rfl, by omega, hn q (by omega) (by omega)⟩
 ·have q := (p1.1 rfl).2.symm.trans (p2.1 rfl).2
  exact ⟨rfl, hw q (by omega) (by omega), by omega⟩
 ·have q := (c1.1 rfl).symm.trans (c2.1 rfl)
  simp only [Prod.mk.injEq] at q
  exact ⟨rfl, hw q.1 (by omega) (by omega), hn q.2.1 (by omega) (by omega)⟩
 ·have q := (d1.1 rfl).symm.trans (d2.1 rfl)
  simp only [Prod.mk.injEq] at q
  exact ⟨rfl, hw q.1 (by omega) (by omega), hn q.2.1 (by omega) (by omega)⟩
theorem RdDy.one {s : ByteArray} {k wd n er k' wd' n' er' : Int} (h : RdDy s k wd n er) (h' : RdDy s k' wd' n' er') : k = k' ∧ wd = wd' ∧ n = n' ∧ er = er' := by
 rcases h with ⟨h1, h2, rfl⟩ | ⟨h1, rfl, rfl, rfl, rfl⟩
 ·rcases h' with ⟨h3, h4, rfl⟩ | ⟨h3, _⟩
  ·obtain ⟨a, b, c⟩ := dt_one h1 h3 (h2.trans h4.symm)
   exact ⟨a, b, c, rfl⟩
  ·exact absurd h2 (h3 _ _ _ h1)
 ·rcases h' with ⟨h3, h4, rfl⟩ | ⟨_, rfl, rfl, rfl, rfl⟩
  ·exact absurd h4 (h1 _ _ _ h3)
  ·exact ⟨rfl, rfl, rfl, rfl⟩
end Go.Proofs.YthppifcggmdmoaaGreatDoor

