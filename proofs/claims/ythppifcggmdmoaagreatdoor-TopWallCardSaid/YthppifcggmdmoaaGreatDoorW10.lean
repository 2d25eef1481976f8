/- Part 10 of the proof of TopWall: no condition; what its declarations say stands at each. -/
import Derived.Test.YthppifcggmdmoaaGreatDoorW09
import Derived.Test.YthppifcggmdmoaaGreatDoorW05
import Derived.Test.YthppifcggmdmoaaGreatDoorW06
namespace Go.Proofs.YthppifcggmdmoaaGreatDoor
set_option linter.unusedVariables false
set_option linter.unusedSimpArgs false
def joinW (c : UInt8) : List (List UInt8) → List UInt8
 | [] => []
 | [a] => a
 | a :: b :: r => a ++ c :: joinW c (b :: r)
theorem lSplit_joinW (c : UInt8) : ∀ L : List (List UInt8), L ≠ [] → (∀ w ∈ L, c ∉ w) → lSplit c (joinW c L) = L
 | [], h, _ => absurd rfl h
 | [a], _, h => lSplit_no (h a (by simp))
 | a :: b :: r, _, h => by
  show lSplit c (a ++ c :: joinW c (b :: r)) = _
  rw [lSplit_join _ (h a (by simp)), lSplit_joinW c (b :: r) (by simp) (fun w hw => h w (by simp [hw]))]
theorem bytes_ext {a b : ByteArray} (h : a.data.toList = b.data.toList) : a = b := ByteArray.ext (Array.toList_inj.1 h)
def rULE : ByteArray := ⟨#[114, 117, 108, 101]⟩
theorem rx_list (name DF DT DM ON AT BY SV letter : ByteArray) :
  (rxW name DF DT DM ON AT BY SV letter).data.toList = joinW 32 [rULE.data.toList, name.data.toList, DF.data.toList, DT.data.toList, DM.data.toList, ON.data.toList, AT.data.toList ++ BY.data.toList, SV.data.toList, letter.data.toList] := by
 simp [rxW, joinW, rULE, ByteArray.data_append]
theorem all_no {most : Nat} {o : List UInt8} {l : List UInt8} (h : allB most o l = true) {c : UInt8} (h1 : isLetB c = false) (h2 : isDigB c = false) (h3 : o.contains c = false) : c ∉ l := by
 intro hc
 rw [allB, Bool.and_eq_true, lettersB, List.all_eq_true] at h
 have := h.1 c hc
 rw [okB, h1, h2, h3] at this
 cases this
theorem dg_no {c : UInt8} (h1 : ¬ isDg c) {l : List UInt8} (h : ∀ x ∈ l, isDg x) : c ∉ l := fun e => h1 (h c e)
theorem sp_bytes (a : Int) : ∀ c ∈ (spV a).data.toList, isDg c ∨ c = 58 ∨ c = 45 := by
 have hT : ∀ m, m ≤ 604800 → ∀ c ∈ (spanT m).data.toList, isDg c ∨ c = 58 ∨ c = 45 := by
  intro m hm c hc
  have h2 : ∀ n, n < 100 → ∀ c ∈ (twoB n).data.toList, isDg c := fun n hn => two_dg hn
  have h3 : ∀ c ∈ (digB (m / 3600)).data.toList, isDg c := fun c hc => dec_dg _ c (by simpa [digB] using hc)
  by_cases h : m % 60 = 0
  ·rw [span_0 h] at hc
   simp only [ByteArray.data_append, Array.toList_append, List.mem_append] at hc
   rcases hc with (hc | hc) | hc
   ·exact Or.inl (h3 c hc)
   ·exact Or.inr (Or.inl (by simpa using hc))
   ·exact Or.inl (h2 _ (by omega) c hc)
  ·rw [span_1 h] at hc
   simp only [ByteArray.data_append, Array.toList_append, List.mem_append] at hc
   rcases hc with ((hc | hc) | hc) | (hc | hc)
   ·exact Or.inl (h3 c hc)
   ·exact Or.inr (Or.inl (by simpa using hc))
   ·exact Or.inl (h2 _ (by omega) c hc)
   ·exact Or.inr (Or.inl (by simpa using hc))
   ·exact Or.inl (h2 _ (by omega) c hc)
 intro c hc
 rw [spV] at hc
 split at hc
 ·rename_i ho
  have := spOk_iff.1 ho
  split at hc
  ·simp only [ByteArray.data_append, Array.toList_append, List.mem_append] at hc
   rcases hc with hc | hc
   ·exact Or.inr (Or.inr (by simpa using hc))
   ·exact hT _ (by omega) c hc
  ·exact hT _ (by omega) c hc
 ·simp at hc
theorem sp_no (a : Int) {c : UInt8} (h1 : ¬ isDg c) (h2 : c ≠ 58) (h3 : c ≠ 45) : c ∉ (spV a).data.toList := by
 intro h
 rcases sp_bytes a c h with h | h | h
 ·exact h1 h
 ·exact h2 h
 ·exact h3 h
theorem not_dg32 : ¬ isDg 32 := by unfold isDg; decide
theorem dt_no (k wd n : Int) : (32 : UInt8) ∉ (dtV k wd n).data.toList := by
 cases h : dcOk k wd n with
 | false => rw [dtV_no h]; simp
 | true =>
  rw [dtL_eq h]
  obtain ⟨hk, ⟨j, hj, hj6⟩, _⟩ := day_cases h
  obtain ⟨a, b, c, e, ha, hb, hc, _⟩ := wordL_is (wd := wd) (by omega)
  have hW : (32 : UInt8) ∉ wordL wd := by
   rw [e]
   intro hm
   simp only [List.mem_cons, List.not_mem_nil, or_false] at hm
   have h32 : (32 : UInt8).toNat = 32 := rfl
   rcases hm with hm | hm | hm
   ·rw [← hm] at ha; omega
   ·rw [← hm] at hb; omega
   ·rw [← hm] at hc; omega
  have hD : (32 : UInt8) ∉ digL n := dg_no not_dg32 (digL_dg n)
  unfold dtL
  split
  ·simp [hW]
  ·split
   ·simp [hW, hD]
   ·split
    ·simp [hW, hD]
    ·exact hD
theorem by_list (b : Int) : (byT b).data.toList = if b = 0 then [] else if b = 1 then [115] else [117] := by
 unfold byT; split
 ·rfl
 ·split <;> rfl
def ruTx (r : RuT) : ByteArray := rxT r.name r.letter r.f r.t r.m r.k r.wd r.n r.a r.b r.sv
def RdRu (s : ByteArray) (r : RuT) (er : Int) : Prop := (ruEr r = 0 ∧ ruTx r = s ∧ er = 0) ∨ ((∀ q, ruEr q = 0 → ruTx q ≠ s) ∧ r = default ∧ er = 3)
theorem ru_words {r : RuT} (h : ruEr r = 0) : lSplit 32 (ruTx r).data.toList = [rULE.data.toList, r.name.data.toList, Lib.decDigits r.f.toNat, Lib.decDigits r.t.toNat, Lib.decDigits r.m.toNat, (dtV r.k r.wd r.n).data.toList, (spV r.a).data.toList ++ (byT r.b).data.toList, (spV r.sv).data.toList, r.letter.data.toList] := by
 unfold ruTx rxT
 rw [rx_list]
 refine lSplit_joinW _ _ (by simp) (fun w hw => ?_)
 have hS : ruleS r.name r.letter = true := by
  cases hs : ruleS r.name r.letter with
  | true => rfl
  | false => unfold ruEr at h; rw [ruleE_3 hs] at h; cases h
 rw [ruleS, Bool.and_eq_true, Bool.or_eq_true] at hS
 obtain ⟨s1, s2⟩ := hS
 rw [isNameB, Bool.and_eq_true] at s1
 simp only [List.mem_cons, List.not_mem_nil, or_false] at hw
 rcases hw with rfl | rfl | rfl | rfl | rfl | rfl | rfl | rfl | rfl
 ·decide
 ·exact all_no s1.1 (by decide) (by decide) (by decide)
 ·exact dg_no not_dg32 (dec_dg _)
 ·exact dg_no not_dg32 (dec_dg _)
 ·exact dg_no not_dg32 (dec_dg _)
 ·exact dt_no _ _ _
 ·rw [List.mem_append]
  rintro (h1 | h1)
  ·exact sp_no _ not_dg32 (by decide) (by decide) h1
  ·rw [by_list] at h1
   split at h1
   ·cases h1
   ·split at h1 <;> (simp at h1)
 ·exact sp_no _ not_dg32 (by decide) (by decide)
 ·rcases s2 with s2 | s2
  ·have e := eq_of_beq s2
   rw [ByteArray.toList_eq] at e
   rw [e]; decide
  ·exact all_no s2 (by decide) (by decide) (by decide)
def byK (l : List UInt8) : Int := if l.getLast? = some 115 then 1 else if l.getLast? = some 117 then 2 else 0
def atK (l : List UInt8) : List UInt8 := if byK l = 0 then l else l.dropLast
theorem by_back (l : List UInt8) : atK l ++ (byT (byK l)).data.toList = l := by
 unfold atK
 rw [by_list]
 unfold byK
 by_cases h1 : l.getLast? = some 115
 ·rw [if_pos h1, if_neg (by decide), if_neg (by decide), if_pos rfl]
  obtain ⟨ys, rfl⟩ := List.getLast?_eq_some_iff.1 h1
  simp
 ·rw [if_neg h1]
  by_cases h2 : l.getLast? = some 117
  ·rw [if_pos h2, if_neg (by decide), if_neg (by decide), if_neg (by decide)]
   obtain ⟨ys, rfl⟩ := List.getLast?_eq_some_iff.1 h2
   simp
  ·rw [if_neg h2, if_pos rfl, if_pos rfl]; simp
theorem sp_ne (a : Int) (h : spOk a = true) : (spV a).data.toList ≠ [] := by
 rw [spV, h, if_pos rfl]
 obtain ⟨c, r, hc, _⟩ := span_head a.natAbs
 split
 ·simp [ByteArray.data_append]
 ·rw [hc]; simp
theorem by_at {a b : Int} (hb : 0 ≤ b ∧ b ≤ 2) : byK ((spV a).data.toList ++ (byT b).data.toList) = b ∧ atK ((spV a).data.toList ++ (byT b).data.toList) = (spV a).data.toList := by
 have hk : byK ((spV a).data.toList ++ (byT b).data.toList) = b := by
  rw [by_list]
  rcases (show b = 0 ∨ b = 1 ∨ b = 2 by omega) with rfl | rfl | rfl
  ·rw [if_pos rfl, List.append_nil, byK]
   rw [if_neg, if_neg]
   ·intro h; exact sp_no a (by unfold isDg; decide) (by decide) (by decide) (List.mem_of_getLast? h)
   ·intro h; exact sp_no a (by unfold isDg; decide) (by decide) (by decide) (List.mem_of_getLast? h)
  ·rw [if_neg (by decide), if_pos rfl, byK, List.getLast?_append]; rfl
  ·rw [if_neg (by decide), if_neg (by decide), byK, List.getLast?_append]; rfl
 refine ⟨hk, ?_⟩
 have h1 := by_back ((spV a).data.toList ++ (byT b).data.toList)
 rw [hk] at h1
 exact List.append_cancel_right h1
theorem dec_at {n : Int} (h : 0 ≤ n) (h2 : n ≤ 100000) : atV (Lib.decDigits n.toNat) = n := by
 rw [atV_dg (dec_dg _) (fun e => by have := dec_pos n.toNat; rw [e] at this; simp at this) (by rw [dec_val]; omega), dec_val]; omega
theorem ru_bd {r : RuT} (h : ruEr r = 0) : (1900 ≤ r.f ∧ r.f ≤ 2100 ∧ r.f ≤ r.t ∧ r.t ≤ 2100 ∧ 1 ≤ r.m ∧ r.m ≤ 12) ∧ dcOk r.k r.wd r.n = true ∧ spOk r.a = true ∧ (0 ≤ r.b ∧ r.b ≤ 2) ∧ spOk r.sv = true := by
 obtain ⟨_, _, h1, h2, h3⟩ := rule_ok h
 exact ⟨h1, h2, spOk_iff.2 (by omega), by omega, spOk_iff.2 (by omega)⟩
theorem ru_prog {s b0 b1 b2 b3 b4 b5 b6 b7 b8 : ByteArray} (hw : [b0, b1, b2, b3, b4, b5, b6, b7, b8].map (·.data.toList) = lSplit 32 s.data.toList) {k wd n e1 a e2 sv e3 : Int} {at_ : ByteArray} (hat : at_.data.toList = atK b6.data.toList) (hd : RdDy b5 k wd n e1) (ha : RdIs at_ a e2) (hsv : RdIs b7 sv e3) {q : RuT} (h : ruEr q = 0) (ht : ruTx q = s) :
  q = ⟨b1, atV b2.data.toList, atV b3.data.toList, atV b4.data.toList, k, wd, n, a, byK b6.data.toList, sv, b8⟩ ∧ b0 = rULE ∧ (e1 = 0 ∧ e2 = 0 ∧ e3 = 0) ∧ b2.data.toList = Lib.decDigits q.f.toNat ∧ b3.data.toList = Lib.decDigits q.t.toNat ∧ b4.data.toList = Lib.decDigits q.m.toNat := by
 obtain ⟨h1, h2, h3, h4, h5⟩ := ru_bd h
 have hq := ru_words h
 rw [ht, ← hw] at hq
 simp only [List.map_cons, List.map_nil, List.cons.injEq, and_true] at hq
 obtain ⟨q0, q1, q2, q3, q4, q5, q6, q7, q8⟩ := hq
 have d5 : b5 = dtV q.k q.wd q.n := bytes_ext q5
 obtain ⟨rfl, rfl, rfl, rfl⟩ := hd.one (k' := q.k) (wd' := q.wd) (n' := q.n) (er' := 0) (Or.inl ⟨h2, d5.symm, rfl⟩)
 obtain ⟨k1, k2⟩ := by_at (a := q.a) h4
 have d6 : at_ = spV q.a := bytes_ext (by rw [hat, q6, k2])
 obtain ⟨rfl, rfl⟩ := ha.one (a' := q.a) (b' := 0) (Or.inl ⟨h3, d6.symm, rfl⟩)
 have d7 : b7 = spV q.sv := bytes_ext q7
 obtain ⟨rfl, rfl⟩ := hsv.one (a' := q.sv) (b' := 0) (Or.inl ⟨h5, d7.symm, rfl⟩)
 refine ⟨?_, bytes_ext q0, ⟨rfl, rfl, rfl⟩, q2, q3, q4⟩
 rw [q2, q3, q4, q6, k1, dec_at (by omega) (by omega), dec_at (by omega) (by omega), dec_at (by omega) (by omega)]
 obtain ⟨nm, f, t, m, k, wd, n, a, b, sv, lt⟩ := q
 simp only [RuT.mk.injEq, and_true, true_and]
 exact ⟨(bytes_ext q1).symm, (bytes_ext q8).symm⟩
theorem ru_none {s : ByteArray} (h : ∀ w0 w1 w2 w3 w4 w5 w6 w7 w8 : List UInt8, w0 = rULE.data.toList → w6 ≠ [] → lSplit 32 s.data.toList ≠ [w0, w1, w2, w3, w4, w5, w6, w7, w8]) : RdRu s default 3 := by
 refine Or.inr ⟨fun q hq e => ?_, rfl, rfl⟩
 have h1 := ru_words hq
 rw [e] at h1
 refine h _ _ _ _ _ _ _ _ _ rfl ?_ h1
 intro e2
 exact sp_ne _ (ru_bd hq).2.2.1 (List.append_eq_nil_iff.1 e2).1
theorem ru_end {s b0 b1 b2 b3 b4 b5 b6 b7 b8 : ByteArray} (hw : [b0, b1, b2, b3, b4, b5, b6, b7, b8].map (·.data.toList) = lSplit 32 s.data.toList) {k wd n e1 a e2 sv e3 : Int} {at_ : ByteArray} (hat : at_.data.toList = atK b6.data.toList) (hd : RdDy b5 k wd n e1) (ha : RdIs at_ a e2) (hsv : RdIs b7 sv e3) {f t m b : Int} (hf : f = atV b2.data.toList) (ht : t = atV b3.data.toList) (hm : m = atV b4.data.toList) (hb : b = byK b6.data.toList)
  (hno : ruEr ⟨b1, f, t, m, k, wd, n, a, b, sv, b8⟩ = 0 → ruTx ⟨b1, f, t, m, k, wd, n, a, b, sv, b8⟩ ≠ s) : RdRu s default 3 := by
 refine Or.inr ⟨fun q hq e => ?_, rfl, rfl⟩
 have h1 := (ru_prog hw hat hd ha hsv hq e).1
 rw [← hf, ← ht, ← hm, ← hb] at h1
 subst h1
 exact hno hq e
theorem RdRu.one {s : ByteArray} {r r' : RuT} {e e' : Int} (h : RdRu s r e) (h' : RdRu s r' e') : r = r' ∧ e = e' := by
 rcases h with ⟨h1, h2, rfl⟩ | ⟨h1, rfl, rfl⟩
 ·rcases h' with ⟨h3, h4, rfl⟩ | ⟨h3, _, _⟩
  ·refine ⟨?_, rfl⟩
   obtain ⟨a1, a2, a3, a4, a5⟩ := ru_bd h1
   obtain ⟨c1, c2, c3, c4, c5⟩ := ru_bd h3
   have w1 := ru_words h1
   have w2 := ru_words h3
   rw [h2] at w1
   rw [h4, w1] at w2
   simp only [List.cons.injEq, and_true, true_and] at w2
   obtain ⟨q1, q2, q3, q4, q5, q6, q7, q8⟩ := w2
   have n2 := congrArg dgV q2
   have n3 := congrArg dgV q3
   have n4 := congrArg dgV q4
   rw [dec_val, dec_val] at n2 n3 n4
   obtain ⟨k1, k2, k3⟩ := dt_one a2 c2 (bytes_ext q5)
   have hb := (by_at (a := r.a) a4).1
   rw [q6, (by_at (a := r'.a) c4).1] at hb
   have hA := (by_at (a := r.a) a4).2
   rw [q6, (by_at (a := r'.a) c4).2] at hA
   have sp1 : ∀ {x y : Int}, spOk x = true → spOk y = true → (spV x).data.toList = (spV y).data.toList → x = y := fun hx hy e => (RdIs.one (Or.inl ⟨hx, bytes_ext e, rfl⟩) (Or.inl ⟨hy, rfl, rfl⟩) (b := 0) (b' := 0)).1
   have s1 := sp1 a3 c3 hA.symm
   have s2 := sp1 a5 c5 q7
   obtain ⟨nm, f, t, m, k, wd, n, a, b, sv, lt⟩ := r
   obtain ⟨nm', f', t', m', k', wd', n', a', b', sv', lt'⟩ := r'
   simp only at *
   simp only [RuT.mk.injEq]
   exact ⟨bytes_ext q1, by omega, by omega, by omega, k1, k2, k3, s1, hb.symm, s2, bytes_ext q8⟩
  ·exact absurd h2 (h3 r h1)
 ·rcases h' with ⟨h3, h4, rfl⟩ | ⟨_, rfl, rfl⟩
  ·exact absurd h4 (h1 r' h3)
  ·exact ⟨rfl, rfl⟩
end Go.Proofs.YthppifcggmdmoaaGreatDoor

