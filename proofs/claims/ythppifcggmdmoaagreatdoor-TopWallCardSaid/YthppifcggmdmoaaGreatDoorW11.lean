/- Part 11 of the proof of TopWall: no condition; what its declarations say stands at each. -/
import Derived.Test.YthppifcggmdmoaaGreatDoorW06
import Derived.Lib.FieldsP
import Derived.Laws.RangeString
namespace Go.Proofs.YthppifcggmdmoaaGreatDoor
set_option linter.unusedVariables false
def dgC (n : Nat) : UInt8 := UInt8.ofNat (48 + n)
theorem dgC_nat {n : Nat} (h : n < 10) : (dgC n).toNat = 48 + n := chr_nat h
theorem dgC_dg {n : Nat} (h : n < 10) : isDg (dgC n) := chr_dg h
def stL (a b c d e f g h i j k m n o : Nat) : List UInt8 := [dgC a, dgC b, dgC c, dgC d, 45, dgC e, dgC f, 45, dgC g, dgC h, 84, dgC i, dgC j, 58, dgC k, dgC m, 58, dgC n, dgC o]
def FormL (l : List UInt8) (Y M D H I S : Nat) : Prop := ∃ a b c d e f g h i j k m n o : Nat, (a < 10 ∧ b < 10 ∧ c < 10 ∧ d < 10) ∧ (e < 10 ∧ f < 10) ∧ (g < 10 ∧ h < 10) ∧ (i < 10 ∧ j < 10) ∧ (k < 10 ∧ m < 10) ∧ (n < 10 ∧ o < 10) ∧ l = stL a b c d e f g h i j k m n o ∧
 Y = 1000 * a + 100 * b + 10 * c + d ∧ M = 10 * e + f ∧ D = 10 * g + h ∧ H = 10 * i + j ∧ I = 10 * k + m ∧ S = 10 * n + o
theorem dec4 {y : Nat} (h1 : 1000 ≤ y) (h2 : y < 10000) : Lib.decDigits y = [dgC (y / 1000), dgC (y / 100 % 10), dgC (y / 10 % 10), dgC (y % 10)] := by
 rw [dec_more (by omega), dec_more (show ¬ y / 10 < 10 by omega), dec_more (show ¬ y / 10 / 10 < 10 by omega), dec_small (show y / 10 / 10 / 10 < 10 by omega)]
 rw [show y / 10 / 10 / 10 = y / 1000 by omega, show y / 10 / 10 % 10 = y / 100 % 10 by omega]
 rfl
theorem stT_form {y m d r : Nat} (h1 : 1000 ≤ y) (h2 : y < 10000) (hm : m < 100) (hd : d < 100) (hr : r < 86400) : FormL (stT y m d r).data.toList y m d (r / 3600) (r / 60 % 60) (r % 60) := by
 refine ⟨y / 1000, y / 100 % 10, y / 10 % 10, y % 10, m / 10, m % 10, d / 10, d % 10, r / 3600 / 10, r / 3600 % 10, r / 60 % 60 / 10, r / 60 % 60 % 10, r % 60 / 10, r % 60 % 10, by omega, by omega, by omega, by omega, by omega, by omega, ?_, by omega, by omega, by omega, by omega, by omega, by omega⟩
 simp [stT, digB, dec4 h1 h2, twoB, stL, dgC]
theorem two_dgV {a b : Nat} (ha : a < 10) (hb : b < 10) : dgV [dgC a, dgC b] = 10 * a + b := by
 show 10 * (10 * 0 + ((dgC a).toNat - 48)) + ((dgC b).toNat - 48) = _
 rw [dgC_nat ha, dgC_nat hb]; omega
theorem four_dgV {a b c d : Nat} (ha : a < 10) (hb : b < 10) (hc : c < 10) (hd : d < 10) : dgV [dgC a, dgC b, dgC c, dgC d] = 1000 * a + 100 * b + 10 * c + d := by
 show 10 * (10 * (10 * (10 * 0 + ((dgC a).toNat - 48)) + ((dgC b).toNat - 48)) + ((dgC c).toNat - 48)) + ((dgC d).toNat - 48) = _
 rw [dgC_nat ha, dgC_nat hb, dgC_nat hc, dgC_nat hd]; omega
theorem form_at {l : List UInt8} {Y M D H I S : Nat} (h : FormL l Y M D H I S) : dgV ((l.drop 0).take 4) = Y ∧ dgV ((l.drop 5).take 2) = M ∧ dgV ((l.drop 8).take 2) = D ∧ dgV ((l.drop 11).take 2) = H ∧ dgV ((l.drop 14).take 2) = I ∧ dgV ((l.drop 17).take 2) = S := by
 obtain ⟨a, b, c, d, e, f, g, h', i, j, k, m, n, o, q1, q2, q3, q4, q5, q6, rfl, rfl, rfl, rfl, rfl, rfl, rfl⟩ := h
 exact ⟨four_dgV q1.1 q1.2.1 q1.2.2.1 q1.2.2.2, two_dgV q2.1 q2.2, two_dgV q3.1 q3.2, two_dgV q4.1 q4.2, two_dgV q5.1 q5.2, two_dgV q6.1 q6.2⟩
def frmL : List UInt8 := [48, 48, 48, 48, 45, 48, 48, 45, 48, 48, 84, 48, 48, 58, 48, 48, 58, 48, 48]
def okAt (l : List UInt8) (i : Nat) : Prop := (frmL.getD i 0 = 48 ∧ isDg (l.getD i 0)) ∨ (frmL.getD i 0 ≠ 48 ∧ l.getD i 0 = frmL.getD i 0)
theorem form_ok {l : List UInt8} {Y M D H I S : Nat} (h : FormL l Y M D H I S) : l.length = 19 ∧ ∀ i, i < 19 → okAt l i := by
 obtain ⟨a, b, c, d, e, f, g, h', i, j, k, m, n, o, q1, q2, q3, q4, q5, q6, rfl, _⟩ := h
 refine ⟨rfl, fun p hp => ?_⟩
 match p, hp with
 | 0, _ => exact Or.inl ⟨rfl, dgC_dg q1.1⟩
 | 1, _ => exact Or.inl ⟨rfl, dgC_dg q1.2.1⟩
 | 2, _ => exact Or.inl ⟨rfl, dgC_dg q1.2.2.1⟩
 | 3, _ => exact Or.inl ⟨rfl, dgC_dg q1.2.2.2⟩
 | 4, _ => exact Or.inr ⟨by decide, rfl⟩
 | 5, _ => exact Or.inl ⟨rfl, dgC_dg q2.1⟩
 | 6, _ => exact Or.inl ⟨rfl, dgC_dg q2.2⟩
 | 7, _ => exact Or.inr ⟨by decide, rfl⟩
 | 8, _ => exact Or.inl ⟨rfl, dgC_dg q3.1⟩
 | 9, _ => exact Or.inl ⟨rfl, dgC_dg q3.2⟩
 | 10, _ => exact Or.inr ⟨by decide, rfl⟩
 | 11, _ => exact Or.inl ⟨rfl, dgC_dg q4.1⟩
 | 12, _ => exact Or.inl ⟨rfl, dgC_dg q4.2⟩
 | 13, _ => exact Or.inr ⟨by decide, rfl⟩
 | 14, _ => exact Or.inl ⟨rfl, dgC_dg q5.1⟩
 | 15, _ => exact Or.inl ⟨rfl, dgC_dg q5.2⟩
 | 16, _ => exact Or.inr ⟨by decide, rfl⟩
 | 17, _ => exact Or.inl ⟨rfl, dgC_dg q6.1⟩
 | 18, _ => exact Or.inl ⟨rfl, dgC_dg q6.2⟩
 | p + 19, hp => omega
theorem ok_sep {l : List UInt8} {i : Nat} (h : okAt l i) (hf : frmL.getD i 0 ≠ 48) : l.getD i 0 = frmL.getD i 0 := by
 rcases h with ⟨h, _⟩ | ⟨_, h⟩
 ·exact absurd h hf
 ·exact h
def RdSt (s : ByteArray) (a b : Int) : Prop := (dateOk (a / 86400) = true ∧ stV a = s ∧ b = 0) ∨ ((∀ t, dateOk (t / 86400) = true → stV t ≠ s) ∧ a = 0 ∧ b = 3)
theorem st_form {t : Int} (h : dateOk (t / 86400) = true) {s : ByteArray} (e : stV t = s) : ∃ Y M D H I S : Nat, FormL s.data.toList Y M D H I S ∧ dayOk Y M D = true ∧ H ≤ 23 ∧ I ≤ 59 ∧ S ≤ 59 ∧ t = 86400 * daysN Y M D + 3600 * H + 60 * I + S := by
 obtain ⟨⟨y, hy, y1, y2⟩, ⟨m, hm, m1⟩, ⟨d, hd, d1⟩⟩ := date_nat h
 have ho := date_ok _ h
 obtain ⟨r, hr, hr2⟩ : ∃ r : Nat, t % 86400 = r ∧ r < 86400 := ⟨(t % 86400).toNat, by omega, by omega⟩
 rw [(st_ok h).1, hy, hm, hd, hr] at e
 simp only [Int.toNat_natCast] at e
 rw [hy, hm, hd] at ho
 refine ⟨y, m, d, r / 3600, r / 60 % 60, r % 60, ?_, ho.1, by omega, by omega, by omega, ?_⟩
 ·rw [← e]; exact stT_form (by omega) (by omega) m1 d1 hr2
 ·rw [ho.2]; omega
theorem form_one {l : List UInt8} {Y M D H I S Y' M' D' H' I' S' : Nat} (h : FormL l Y M D H I S) (h' : FormL l Y' M' D' H' I' S') : Y = Y' ∧ M = M' ∧ D = D' ∧ H = H' ∧ I = I' ∧ S = S' := by
 obtain ⟨a1, a2, a3, a4, a5, a6⟩ := form_at h
 obtain ⟨b1, b2, b3, b4, b5, b6⟩ := form_at h'
 exact ⟨a1.symm.trans b1, a2.symm.trans b2, a3.symm.trans b3, a4.symm.trans b4, a5.symm.trans b5, a6.symm.trans b6⟩
theorem RdSt.one {s : ByteArray} {a b a' b' : Int} (h : RdSt s a b) (h' : RdSt s a' b') : a = a' ∧ b = b' := by
 rcases h with ⟨h1, h2, rfl⟩ | ⟨h1, rfl, rfl⟩
 ·rcases h' with ⟨h3, h4, rfl⟩ | ⟨h3, _, _⟩
  ·obtain ⟨Y, M, D, H, I, S, f1, _, _, _, _, t1⟩ := st_form h1 h2
   obtain ⟨Y', M', D', H', I', S', f2, _, _, _, _, t2⟩ := st_form h3 h4
   obtain ⟨rfl, rfl, rfl, rfl, rfl, rfl⟩ := form_one f1 f2
   exact ⟨t1.trans t2.symm, rfl⟩
  ·exact absurd h2 (h3 a h1)
 ·rcases h' with ⟨h3, h4, rfl⟩ | ⟨_, rfl, rfl⟩
  ·exact absurd h4 (h1 a' h3)
  ·exact ⟨rfl, rfl⟩
def noDg (x : Nat) : Bool := decide (x < 48) || decide (57 < x)
theorem get_at {s : ByteArray} {i : Nat} (h : i < s.size) : s[i]'h = s.data.toList.getD i 0 := by
 rw [List.getD_eq_getElem?_getD, List.getElem?_eq_getElem (by rw [← Lib.size_eq]; exact h)]; rfl
theorem sp_none {s : ByteArray} {f pos : Nat} {acc : List (Nat × Nat)} (h : pos < s.size) (hd : isDg (s.data.toList.getD pos 0)) : Lib.spansFromP noDg s (f + 1) pos none acc = Lib.spansFromP noDg s f (pos + 1) (some pos) acc := by
 have hg := get_at h
 unfold isDg at hd
 rw [← hg] at hd
 rw [Lib.spansFromP, if_pos h, decode_ascii s pos h (by omega)]
 rw [if_neg (by simp [noDg]; omega)]
theorem sp_some {s : ByteArray} {f pos a : Nat} {acc : List (Nat × Nat)} (h : pos < s.size) (hd : isDg (s.data.toList.getD pos 0)) : Lib.spansFromP noDg s (f + 1) pos (some a) acc = Lib.spansFromP noDg s f (pos + 1) (some a) acc := by
 have hg := get_at h
 unfold isDg at hd
 rw [← hg] at hd
 rw [Lib.spansFromP, if_pos h, decode_ascii s pos h (by omega)]
 rw [if_neg (by simp [noDg]; omega)]
theorem sp_sep {s : ByteArray} {f pos a : Nat} {acc : List (Nat × Nat)} (h : pos < s.size) (h1 : (s.data.toList.getD pos 0).toNat < 128) (h2 : noDg (s.data.toList.getD pos 0).toNat = true) : Lib.spansFromP noDg s (f + 1) pos (some a) acc = Lib.spansFromP noDg s f (pos + 1) none (acc ++ [(a, pos)]) := by
 have hg := get_at h
 rw [← hg] at h1 h2
 rw [Lib.spansFromP, if_pos h, decode_ascii s pos h h1]
 rw [if_pos h2]
theorem form_spans {s : ByteArray} {Y M D H I S : Nat} (h : FormL s.data.toList Y M D H I S) : Lib.spansOfP noDg s = [(0, 4), (5, 7), (8, 10), (11, 13), (14, 16), (17, 19)] := by
 obtain ⟨hl, hok⟩ := form_ok h
 have hz : s.size = 19 := by rw [Lib.size_eq]; exact hl
 have dg : ∀ i, i < 19 → frmL.getD i 0 = 48 → isDg (s.data.toList.getD i 0) := fun i hi hf => by
  rcases hok i hi with ⟨_, h⟩ | ⟨h, _⟩
  ·exact h
  ·exact absurd hf h
 have sp : ∀ i, i < 19 → frmL.getD i 0 ≠ 48 → s.data.toList.getD i 0 = frmL.getD i 0 := fun i hi hf => ok_sep (hok i hi) hf
 rw [Lib.spansOfP, hz]
 rw [sp_none (by omega) (dg 0 (by omega) rfl), sp_some (by omega) (dg 1 (by omega) rfl), sp_some (by omega) (dg 2 (by omega) rfl), sp_some (by omega) (dg 3 (by omega) rfl), sp_sep (by omega) (by rw [sp 4 (by omega) (by decide)]; decide) (by rw [sp 4 (by omega) (by decide)]; decide)]
 rw [sp_none (by omega) (dg 5 (by omega) rfl), sp_some (by omega) (dg 6 (by omega) rfl), sp_sep (by omega) (by rw [sp 7 (by omega) (by decide)]; decide) (by rw [sp 7 (by omega) (by decide)]; decide)]
 rw [sp_none (by omega) (dg 8 (by omega) rfl), sp_some (by omega) (dg 9 (by omega) rfl), sp_sep (by omega) (by rw [sp 10 (by omega) (by decide)]; decide) (by rw [sp 10 (by omega) (by decide)]; decide)]
 rw [sp_none (by omega) (dg 11 (by omega) rfl), sp_some (by omega) (dg 12 (by omega) rfl), sp_sep (by omega) (by rw [sp 13 (by omega) (by decide)]; decide) (by rw [sp 13 (by omega) (by decide)]; decide)]
 rw [sp_none (by omega) (dg 14 (by omega) rfl), sp_some (by omega) (dg 15 (by omega) rfl), sp_sep (by omega) (by rw [sp 16 (by omega) (by decide)]; decide) (by rw [sp 16 (by omega) (by decide)]; decide)]
 rw [sp_none (by omega) (dg 17 (by omega) rfl), sp_some (by omega) (dg 18 (by omega) rfl)]
 show Lib.closeSpans s (_, some 17) = _
 simp [Lib.closeSpans, hz]
theorem form_words {s : ByteArray} {Y M D H I S : Nat} (h : FormL s.data.toList Y M D H I S) : (Lib.goFieldsP noDg s).map (fun b => atV b.data.toList) = [(Y : Int), (M : Int), (D : Int), (H : Int), (I : Int), (S : Int)] := by
 rw [Lib.goFieldsP, form_spans h]
 simp only [List.map_cons, List.map_nil, Lib.extract_data]
 obtain ⟨a1, a2, a3, a4, a5, a6⟩ := form_at h
 obtain ⟨a, b, c, d, e, f, g, h', i, j, k, m, n, o, q1, q2, q3, q4, q5, q6, hl, eY, eM, eD, eH, eI, eS⟩ := h
 have two : ∀ {x y : Nat}, x < 10 → y < 10 → ∀ z ∈ [dgC x, dgC y], isDg z := fun hx hy z hz => by
  simp at hz; rcases hz with rfl | rfl
  ·exact dgC_dg hx
  ·exact dgC_dg hy
 have w1 : atV ((s.data.toList.drop 0).take (4 - 0)) = (Y : Int) := by
  rw [atV_dg (by
   rw [hl]; intro z hz
   have hz' : z ∈ [dgC a, dgC b, dgC c, dgC d] := hz
   simp at hz'
   rcases hz' with rfl | rfl | rfl | rfl
   ·exact dgC_dg q1.1
   ·exact dgC_dg q1.2.1
   ·exact dgC_dg q1.2.2.1
   ·exact dgC_dg q1.2.2.2) (by rw [hl]; simp [stL]) (by show dgV ((s.data.toList.drop 0).take 4) ≤ 100000; rw [a1]; omega)]
  show ((dgV ((s.data.toList.drop 0).take 4) : Nat) : Int) = _
  rw [a1]
 have w2 : atV ((s.data.toList.drop 5).take (7 - 5)) = (M : Int) := by
  rw [atV_dg (by rw [hl]; exact two q2.1 q2.2) (by rw [hl]; simp [stL]) (by show dgV ((s.data.toList.drop 5).take 2) ≤ 100000; rw [a2]; omega)]
  show ((dgV ((s.data.toList.drop 5).take 2) : Nat) : Int) = _
  rw [a2]
 have w3 : atV ((s.data.toList.drop 8).take (10 - 8)) = (D : Int) := by
  rw [atV_dg (by rw [hl]; exact two q3.1 q3.2) (by rw [hl]; simp [stL]) (by show dgV ((s.data.toList.drop 8).take 2) ≤ 100000; rw [a3]; omega)]
  show ((dgV ((s.data.toList.drop 8).take 2) : Nat) : Int) = _
  rw [a3]
 have w4 : atV ((s.data.toList.drop 11).take (13 - 11)) = (H : Int) := by
  rw [atV_dg (by rw [hl]; exact two q4.1 q4.2) (by rw [hl]; simp [stL]) (by show dgV ((s.data.toList.drop 11).take 2) ≤ 100000; rw [a4]; omega)]
  show ((dgV ((s.data.toList.drop 11).take 2) : Nat) : Int) = _
  rw [a4]
 have w5 : atV ((s.data.toList.drop 14).take (16 - 14)) = (I : Int) := by
  rw [atV_dg (by rw [hl]; exact two q5.1 q5.2) (by rw [hl]; simp [stL]) (by show dgV ((s.data.toList.drop 14).take 2) ≤ 100000; rw [a5]; omega)]
  show ((dgV ((s.data.toList.drop 14).take 2) : Nat) : Int) = _
  rw [a5]
 have w6 : atV ((s.data.toList.drop 17).take (19 - 17)) = (S : Int) := by
  rw [atV_dg (by rw [hl]; exact two q6.1 q6.2) (by rw [hl]; simp [stL]) (by show dgV ((s.data.toList.drop 17).take 2) ≤ 100000; rw [a6]; omega)]
  show ((dgV ((s.data.toList.drop 17).take 2) : Nat) : Int) = _
  rw [a6]
 rw [w1, w2, w3, w4, w5, w6]
end Go.Proofs.YthppifcggmdmoaaGreatDoor

