/- Plain: a span's text: its words, and what they come to. No program in sight. -/
import Derived.Test.YtanaoohgpdcfjaaGreatDoorRdP
namespace Go.Proofs.YtanaoohgpdcfjaaGreatDoor
set_option linter.unusedVariables false
def cf (k : Nat) : Nat := if k = 0 then 3600 else if k = 1 then 60 else 1
/-- what the first k words come to -/
def accW (ws : List (List UInt8)) : Nat → Nat
  | 0 => 0
  | k + 1 => accW ws k + dgV (ws.getD k []) * cf k
theorem accW_le (ws : List (List UInt8)) {j k : Nat} (h : j ≤ k) : accW ws j ≤ accW ws k := by
  induction h with
  | refl => exact Nat.le_refl _
  | step h ih => exact Nat.le_trans ih (by rw [accW]; omega)
structure GoodW (ws : List (List UInt8)) (m : Nat) : Prop where
  pos : 1 ≤ ws.length
  len : ws.length ≤ 3
  dg : ∀ k, k < ws.length → ∀ c ∈ ws.getD k [], isDg c
  val : ∀ k, k < ws.length → dgV (ws.getD k []) ≤ 999
  one : 1 ≤ (ws.getD 0 []).length ∧ (ws.getD 0 []).length ≤ 3
  two : ∀ k, 0 < k → k < ws.length → (ws.getD k []).length = 2
  sum : accW ws ws.length = m
  max : m ≤ 604800
theorem GoodW.ne {ws : List (List UInt8)} {m k : Nat} (h : GoodW ws m) (hk : k < ws.length) : ws.getD k [] ≠ [] := by
  intro e
  rcases Nat.eq_zero_or_pos k with rfl | h0
  · have := h.one; rw [e] at this; simp at this
  · have := h.two k h0 hk; rw [e] at this; simp at this
theorem GoodW.at {ws : List (List UInt8)} {m k : Nat} (h : GoodW ws m) (hk : k < ws.length) : atV (ws.getD k []) = dgV (ws.getD k []) :=
  atV_dg (h.dg k hk) (h.ne hk) (Nat.le_trans (h.val k hk) (by omega))
theorem dg_colon {l : List UInt8} (h : ∀ c ∈ l, isDg c) : (58 : UInt8) ∉ l := fun e => by have := h _ e; unfold isDg at this; revert this; decide
theorem dec_pos (n : Nat) : 1 ≤ (Lib.decDigits n).length := by
  by_cases h : n < 10
  · rw [dec_small h]; simp
  · rw [dec_more h]; simp
theorem span_words (m : Nat) : lSplit 58 (spanT m).data.toList = if m % 60 = 0 then [Lib.decDigits (m / 3600), (twoB (m / 60 % 60)).data.toList] else [Lib.decDigits (m / 3600), (twoB (m / 60 % 60)).data.toList, (twoB (m % 60)).data.toList] := by
  have d1 := dg_colon (dec_dg (m / 3600))
  have d2 := dg_colon (two_dg (show m / 60 % 60 < 100 by omega))
  have d3 := dg_colon (two_dg (show m % 60 < 100 by omega))
  by_cases h : m % 60 = 0
  · rw [if_pos h, span_0 h]
    have e : (digB (m / 3600) ++ ⟨#[58]⟩ ++ twoB (m / 60 % 60)).data.toList = Lib.decDigits (m / 3600) ++ 58 :: (twoB (m / 60 % 60)).data.toList := by simp [digB]
    rw [e, lSplit_join _ d1, lSplit_no d2]
  · rw [if_neg h, span_1 h]
    have e : (digB (m / 3600) ++ ⟨#[58]⟩ ++ twoB (m / 60 % 60) ++ (⟨#[58]⟩ ++ twoB (m % 60))).data.toList = Lib.decDigits (m / 3600) ++ 58 :: ((twoB (m / 60 % 60)).data.toList ++ 58 :: (twoB (m % 60)).data.toList) := by simp [digB]
    rw [e, lSplit_join _ d1, lSplit_join _ d2, lSplit_no d3]
theorem good_span {m : Nat} (hm : m ≤ 604800) : GoodW (lSplit 58 (spanT m).data.toList) m := by
  have v1 := dec_val (m / 3600)
  have v2 := two_val (show m / 60 % 60 < 100 by omega)
  have v3 := two_val (show m % 60 < 100 by omega)
  have g1 := dec_dg (m / 3600)
  have g2 := two_dg (show m / 60 % 60 < 100 by omega)
  have g3 := two_dg (show m % 60 < 100 by omega)
  have l1 := dec_pos (m / 3600)
  have l2 := dec_len3 (show m / 3600 < 1000 by omega)
  rw [span_words]
  by_cases h : m % 60 = 0
  · rw [if_pos h]
    refine ⟨by simp, by simp, ?_, ?_, ⟨l1, l2⟩, ?_, ?_, hm⟩
    · intro k hk
      match k, hk with
      | 0, _ => exact g1
      | 1, _ => exact g2
    · intro k hk
      match k, hk with
      | 0, _ => show dgV (Lib.decDigits _) ≤ 999; omega
      | 1, _ => show dgV (twoB _).data.toList ≤ 999; omega
    · intro k h0 hk
      match k, hk with
      | 1, _ => rfl
    · show 0 + dgV (Lib.decDigits (m / 3600)) * 3600 + dgV (twoB (m / 60 % 60)).data.toList * 60 = m
      rw [v1, v2]; omega
  · rw [if_neg h]
    refine ⟨by simp, by simp, ?_, ?_, ⟨l1, l2⟩, ?_, ?_, hm⟩
    · intro k hk
      match k, hk with
      | 0, _ => exact g1
      | 1, _ => exact g2
      | 2, _ => exact g3
    · intro k hk
      match k, hk with
      | 0, _ => show dgV (Lib.decDigits _) ≤ 999; omega
      | 1, _ => show dgV (twoB _).data.toList ≤ 999; omega
      | 2, _ => show dgV (twoB _).data.toList ≤ 999; omega
    · intro k h0 hk
      match k, hk with
      | 1, _ => rfl
      | 2, _ => rfl
    · show 0 + dgV (Lib.decDigits (m / 3600)) * 3600 + dgV (twoB (m / 60 % 60)).data.toList * 60 + dgV (twoB (m % 60)).data.toList * 1 = m
      rw [v1, v2, v3]; omega
def wordsOf (s : ByteArray) : List (List UInt8) := lSplit 58 (Lib.trimPrefix s.data.toList [45])
def negOf (s : ByteArray) : Bool := Lib.hasPrefix s.data.toList [45]
def sgnV (b : Bool) (m : Int) : Int := if b = true then -m else m
theorem span_head (m : Nat) : ∃ c r, (spanT m).data.toList = c :: r ∧ isDg c := by
  have hd : ∃ c r, Lib.decDigits (m / 3600) = c :: r ∧ isDg c := by
    cases e : Lib.decDigits (m / 3600) with
    | nil => have := dec_pos (m / 3600); rw [e] at this; simp at this
    | cons c r => exact ⟨c, r, rfl, dec_dg (m / 3600) c (by rw [e]; simp)⟩
  obtain ⟨c, r, h1, h2⟩ := hd
  have e0 : (digB (m / 3600)).data.toList = c :: r := by simp [digB, h1]
  by_cases h : m % 60 = 0
  · rw [span_0 h]; exact ⟨c, _, by simp [e0]; rfl, h2⟩
  · rw [span_1 h]; exact ⟨c, _, by simp [e0]; rfl, h2⟩
/-- a text that is a span's: its words and its sign tell which -/
theorem rd_good {n : Int} (ho : spOk n = true) : ∃ m, GoodW (wordsOf (spV n)) m ∧ n = sgnV (negOf (spV n)) m := by
  obtain ⟨h1, h2⟩ := spOk_iff.1 ho
  by_cases h0 : n < 0
  · obtain ⟨m, rfl⟩ : ∃ m : Nat, n = -(m : Int) := ⟨n.natAbs, by omega⟩
    have e := (spV_neg (m := m) (by omega) (by omega)).1
    have hn : negOf (spV (-(m : Int))) = true := by rw [negOf, e]; simp [Lib.hasPrefix]
    have hw : wordsOf (spV (-(m : Int))) = lSplit 58 (spanT m).data.toList := by rw [wordsOf, e]; simp [Lib.trimPrefix, Lib.hasPrefix]
    refine ⟨m, ?_, ?_⟩
    · rw [hw]; exact good_span (by omega)
    · rw [hn]; rfl
  · obtain ⟨m, rfl⟩ : ∃ m : Nat, n = (m : Int) := ⟨n.natAbs, by omega⟩
    have e := (spV_pos (m := m) (by omega)).1
    obtain ⟨c, r, hc, hd⟩ := span_head m
    have hne : c ≠ 45 := by intro e; rw [e] at hd; unfold isDg at hd; revert hd; decide
    have hn : negOf (spV (m : Int)) = false := by rw [negOf, e, hc]; exact Bool.eq_false_iff.2 (fun h => by simp [Lib.hasPrefix] at h; exact hne h.symm)
    have hw : wordsOf (spV (m : Int)) = lSplit 58 (spanT m).data.toList := by
      rw [wordsOf, e]
      have : Lib.hasPrefix (spanT m).data.toList [45] = false := by rw [negOf, e] at hn; exact hn
      rw [Lib.trimPrefix, this]; rfl
    refine ⟨m, ?_, ?_⟩
    · rw [hw]; exact good_span (by omega)
    · rw [hn]; rfl
/-- what reading a span's text answers -/
def RdIs (s : ByteArray) (a b : Int) : Prop := (spOk a = true ∧ spV a = s ∧ b = 0) ∨ ((∀ n, spOk n = true → spV n ≠ s) ∧ a = 0 ∧ b = 3)
theorem RdIs.one {s : ByteArray} {a b a' b' : Int} (h : RdIs s a b) (h' : RdIs s a' b') : a = a' ∧ b = b' := by
  rcases h with ⟨h1, h2, rfl⟩ | ⟨h1, rfl, rfl⟩
  · rcases h' with ⟨h3, h4, rfl⟩ | ⟨h3, _, _⟩
    · obtain ⟨m, g1, g2⟩ := rd_good h1
      obtain ⟨m', g3, g4⟩ := rd_good h3
      rw [h2] at g1 g2
      rw [h4] at g3 g4
      have : m = m' := g1.sum.symm.trans g3.sum
      exact ⟨by rw [g2, g4, this], rfl⟩
    · exact absurd h2 (h3 a h1)
  · rcases h' with ⟨h3, h4, rfl⟩ | ⟨_, rfl, rfl⟩
    · exact absurd h4 (h1 a' h3)
    · exact ⟨rfl, rfl⟩
end Go.Proofs.YtanaoohgpdcfjaaGreatDoor
