/- Plain: what reading a span comes to: words between colons, what each is read as. No program in sight. -/
import Derived.Test.YtanaoohgpdcfjaaGreatDoorPln
import Derived.Lib.AtoiAllCases
import Derived.Lib.Split
import Derived.Lib.IndexBytes
namespace Go.Proofs.YtanaoohgpdcfjaaGreatDoor
set_option linter.unusedVariables false
/-- a text cut at every byte c -/
def lSplit (c : UInt8) : List UInt8 → List (List UInt8)
  | [] => [[]]
  | b :: l => if b = c then [] :: lSplit c l else match lSplit c l with
    | [] => [[b]]
    | w :: r => (b :: w) :: r
theorem lSplit_ne (c : UInt8) : ∀ l, lSplit c l ≠ []
  | [] => by simp [lSplit]
  | b :: l => by
    rw [lSplit]
    split
    · simp
    · split <;> simp
theorem lSplit_no {c : UInt8} : ∀ {a : List UInt8}, c ∉ a → lSplit c a = [a]
  | [], _ => rfl
  | b :: l, h => by
    have h1 : b ≠ c := fun e => h (by simp [e])
    have h2 : c ∉ l := fun e => h (by simp [e])
    rw [lSplit, if_neg h1, lSplit_no h2]
theorem lSplit_join {c : UInt8} (b : List UInt8) : ∀ {a : List UInt8}, c ∉ a → lSplit c (a ++ c :: b) = a :: lSplit c b
  | [], _ => by rw [List.nil_append, lSplit, if_pos rfl]
  | x :: l, h => by
    have h1 : x ≠ c := fun e => h (by simp [e])
    have h2 : c ∉ l := fun e => h (by simp [e])
    rw [List.cons_append, lSplit, if_neg h1, lSplit_join b h2]
theorem lSplit_cut {c : UInt8} : ∀ {l : List UInt8}, c ∈ l → ∃ a b, l = a ++ c :: b ∧ c ∉ a
  | [], h => by cases h
  | x :: l, h => by
    by_cases e : x = c
    · exact ⟨[], l, by rw [e]; rfl, by simp⟩
    · obtain ⟨a, b, h1, h2⟩ := lSplit_cut (l := l) (by
        rcases List.mem_cons.1 h with h | h
        · exact absurd h.symm e
        · exact h)
      exact ⟨x :: a, b, by rw [h1]; rfl, by simp [h2]; exact fun h => e h.symm⟩
theorem index_no {c : UInt8} : ∀ {a : List UInt8}, c ∉ a → Lib.indexByte a c = -1
  | [], _ => rfl
  | x :: l, h => by
    have h1 : ¬ (x == c) = true := fun e => h (by simp [beq_iff_eq.1 e])
    have h2 : c ∉ l := fun e => h (by simp [e])
    rw [Lib.indexByte, if_neg h1, index_no h2, if_pos (by decide)]
theorem index_join {c : UInt8} (b : List UInt8) : ∀ {a : List UInt8}, c ∉ a → Lib.indexByte (a ++ c :: b) c = a.length
  | [], _ => by rw [List.nil_append, Lib.indexByte, if_pos (by simp)]; rfl
  | x :: l, h => by
    have h1 : ¬ (x == c) = true := fun e => h (by simp [beq_iff_eq.1 e])
    have h2 : c ∉ l := fun e => h (by simp [e])
    rw [List.cons_append, Lib.indexByte, if_neg h1, index_join b h2, if_neg (by simp)]
    simp
theorem index_one (s : ByteArray) (c : UInt8) : Lib.indexB s ⟨#[c]⟩ = Lib.indexByte s.data.toList c := by
  rw [Lib.one s ⟨#[c]⟩ rfl]
  congr 1
  show ((c.toNat : Int)).toNat.toUInt8 = c
  simp
theorem splitB_one (c : UInt8) : ∀ (n : Nat) (s : ByteArray), s.data.toList.count c = n → (Lib.splitB ⟨#[c]⟩ 0 n s).map (·.data.toList) = lSplit c s.data.toList
  | 0, s, h => by rw [Lib.splitB_zero, lSplit_no (List.count_eq_zero.1 h)]; rfl
  | n + 1, s, h => by
    obtain ⟨a, b, h1, h2⟩ := lSplit_cut (c := c) (l := s.data.toList) (List.count_pos_iff.1 (by omega))
    have hi : Lib.indexB s ⟨#[c]⟩ = a.length := by rw [index_one, h1, index_join b h2]
    have e2 : (s.extract (a.length + 1) s.size).data.toList = b := by
      rw [Lib.extract_to_end, h1, List.drop_append, List.drop_eq_nil_of_le (by omega), List.nil_append, show a.length + 1 - a.length = 1 by omega]; rfl
    have h3 : b.count c = n := by
      rw [h1, List.count_append, List.count_eq_zero_of_not_mem h2, List.count_cons_self] at h; omega
    rw [Lib.splitB_hit _ _ _ _ _ hi, List.map_cons, Lib.extract_from_zero]
    show _ :: (Lib.splitB _ 0 n (s.extract (a.length + 1) s.size)).map _ = _
    rw [splitB_one c n _ (by rw [e2]; exact h3), e2, h1, lSplit_join b h2]
    congr 1
    rw [List.take_append_of_le_length (by omega), Nat.add_zero, List.take_length]
/-- what strconv.Atoi hands back beside its error -/
def atV (l : List UInt8) : Int := match Lib.atoiAll l with
  | .ok v => v
  | .syntax => 0
  | .range => Lib.atoiSat l
def isDg (c : UInt8) : Prop := 48 ≤ c.toNat ∧ c.toNat ≤ 57
/-- what a word of digits spells -/
def dgV (l : List UInt8) : Nat := l.foldl (fun k c => 10 * k + (c.toNat - 48)) 0
theorem dgV_snoc (l : List UInt8) (c : UInt8) : dgV (l ++ [c]) = 10 * dgV l + (c.toNat - 48) := by simp [dgV]
theorem chr_nat {n : Nat} (h : n < 10) : (UInt8.ofNat (48 + n)).toNat = 48 + n := by simp; omega
theorem chr_dg {n : Nat} (h : n < 10) : isDg (UInt8.ofNat (48 + n)) := by unfold isDg; rw [chr_nat h]; omega
theorem dec_dg (n : Nat) : ∀ c ∈ Lib.decDigits n, isDg c := by
  induction n using Nat.strongRecOn with
  | ind n ih =>
    by_cases h : n < 10
    · rw [dec_small h]; intro c hc; obtain rfl := List.mem_singleton.1 hc; exact chr_dg h
    · rw [dec_more h]; intro c hc
      rcases List.mem_append.1 hc with hc | hc
      · exact ih _ (by omega) c hc
      · obtain rfl := List.mem_singleton.1 hc; exact chr_dg (by omega)
theorem dec_val (n : Nat) : dgV (Lib.decDigits n) = n := by
  induction n using Nat.strongRecOn with
  | ind n ih =>
    by_cases h : n < 10
    · rw [dec_small h]; simp only [dgV, List.foldl_cons, List.foldl_nil]; rw [chr_nat h]; omega
    · rw [dec_more h, dgV_snoc, ih _ (by omega), chr_nat (by omega)]; omega
theorem two_dg {n : Nat} (h : n < 100) : ∀ c ∈ (twoB n).data.toList, isDg c := by
  intro c hc
  simp [twoB] at hc
  rcases hc with rfl | rfl
  · have := chr_dg (show n / 10 < 10 by omega); simpa using this
  · have := chr_dg (show n % 10 < 10 by omega); simpa using this
theorem two_val {n : Nat} (h : n < 100) : dgV (twoB n).data.toList = n := by
  show 10 * (10 * 0 + ((UInt8.ofNat (48 + n / 10)).toNat - 48)) + ((UInt8.ofNat (48 + n % 10)).toNat - 48) = n
  rw [chr_nat (by omega), chr_nat (by omega)]; omega
theorem uint_dg : ∀ (l : List UInt8) (a : Nat), (∀ c ∈ l, isDg c) → l.foldl (fun k c => 10 * k + (c.toNat - 48)) a ≤ 100000 → Lib.parseUint10 a l = .ok (l.foldl (fun k c => 10 * k + (c.toNat - 48)) a)
  | [], a, _, _ => rfl
  | c :: l, a, h, hle => by
    have hc : 48 ≤ c.toNat ∧ c.toNat ≤ 57 := h c (by simp)
    have hm : ∀ (l : List UInt8) (a : Nat), a ≤ l.foldl (fun k c => 10 * k + (c.toNat - 48)) a := by
      intro l
      induction l with
      | nil => intro a; exact Nat.le_refl _
      | cons x l ih => intro a; rw [List.foldl_cons]; exact Nat.le_trans (by omega) (ih (10 * a + (x.toNat - 48)))
    have hb := hm l (10 * a + (c.toNat - 48))
    rw [List.foldl_cons] at hle
    rw [Lib.parseUint10, if_pos hc, if_neg (by omega), if_neg (by omega), List.foldl_cons, show a * 10 + (c.toNat - 48) = 10 * a + (c.toNat - 48) by omega]
    exact uint_dg l _ (fun c hc => h c (by simp [hc])) hle
theorem atV_dg {l : List UInt8} (h : ∀ c ∈ l, isDg c) (h0 : l ≠ []) (hv : dgV l ≤ 100000) : atV l = dgV l := by
  cases l with
  | nil => exact absurd rfl h0
  | cons c r =>
    have hc := h c (by simp)
    unfold isDg at hc
    have e : Lib.atoiAll (c :: r) = .ok ((dgV (c :: r) : Nat) : Int) := by
      rw [Lib.atoiAll_plain c r (by omega) (by omega), Lib.parseMag, if_neg (by simp), uint_dg _ _ h hv]
      show Lib.signless (.ok (dgV (c :: r))) = _
      simp [Lib.signless]; omega
    rw [atV, e]
end Go.Proofs.YtanaoohgpdcfjaaGreatDoor
