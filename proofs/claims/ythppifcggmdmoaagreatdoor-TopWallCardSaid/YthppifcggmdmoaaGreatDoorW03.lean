/- Part 3 of the proof of TopWall: no condition; what its declarations say stands at each. -/
import Derived.Test.YthppifcggmdmoaaGreatDoorW02
import Derived.Lib.IndexLaws
import Derived.WalkKit
import Derived.Lib.ItoaNum
namespace Go.Proofs.YthppifcggmdmoaaGreatDoor
set_option linter.unusedVariables false
def isLetB (c : UInt8) : Bool := decide ((97 ≤ c.toNat ∧ c.toNat ≤ 122) ∨ (65 ≤ c.toNat ∧ c.toNat ≤ 90))
def isDigB (c : UInt8) : Bool := decide (48 ≤ c.toNat ∧ c.toNat ≤ 57)
theorem isLetB_t {c : UInt8} (h : (97 ≤ c.toNat ∧ c.toNat ≤ 122) ∨ (65 ≤ c.toNat ∧ c.toNat ≤ 90)) : isLetB c = true := by simpa only [isLetB, decide_eq_true_eq] using h
theorem isLetB_f {c : UInt8} (h : ¬ ((97 ≤ c.toNat ∧ c.toNat ≤ 122) ∨ (65 ≤ c.toNat ∧ c.toNat ≤ 90))) : isLetB c = false := by simpa only [isLetB, decide_eq_false_iff_not] using h
theorem isDigB_t {c : UInt8} (h : 48 ≤ c.toNat ∧ c.toNat ≤ 57) : isDigB c = true := by simpa only [isDigB, decide_eq_true_eq] using h
theorem isDigB_f {c : UInt8} (h : ¬ (48 ≤ c.toNat ∧ c.toNat ≤ 57)) : isDigB c = false := by simpa only [isDigB, decide_eq_false_iff_not] using h
def okB (o : List UInt8) (c : UInt8) : Bool := isLetB c || isDigB c || o.contains c
def lettersB (o l : List UInt8) : Bool := l.all (okB o)
def allB (most : Nat) (o l : List UInt8) : Bool := lettersB o l && decide (1 ≤ l.length ∧ l.length ≤ most)
def isAbbrB (l : List UInt8) : Bool := allB 8 [43, 45] l
def isNameB (l : List UInt8) : Bool := allB 20 [95, 47, 45] l && isLetB (l.headD 0)
theorem indexByte_contains (l : List UInt8) (c : UInt8) : decide (0 ≤ Lib.indexByte l c) = l.contains c := by
 rw [Bool.eq_iff_iff]
 simp only [decide_eq_true_eq, List.contains_iff_mem]
 constructor
 ·intro h
  obtain ⟨o, ho⟩ := Int.eq_ofNat_of_zero_le h
  exact List.mem_of_getElem? (Lib.indexByte_some ho).1
 ·intro h
  have := Lib.indexByte_ge l c
  by_cases e : Lib.indexByte l c = -1
  ·obtain ⟨k, hk, e2⟩ := List.mem_iff_getElem.1 h
   exact absurd (by rw [List.getElem?_eq_getElem hk, e2]) (Lib.indexByte_none e k)
  ·omega
theorem extract_one (s : ByteArray) (k : Nat) (h : k < s.size) : s.extract k (k + 1) = ⟨#[s[k]]⟩ := by
 apply ByteArray.ext
 rw [ByteArray.data_extract]
 apply Array.ext'
 have h' : k < s.data.toList.length := by simpa using h
 simp only [Array.toList_extract, List.extract_eq_take_drop]
 rw [List.drop_eq_getElem_cons h', show k + 1 - k = 1 by omega]
 rfl
theorem lettersB_snoc (o : List UInt8) (l : List UInt8) (k : Nat) (h : k < l.length) : lettersB o (l.take (k + 1)) = (lettersB o (l.take k) && okB o l[k]) := by
 rw [lettersB, List.take_succ_eq_append_getElem h, List.all_append]; simp [lettersB]
theorem lettersB_bad (o : List UInt8) (l : List UInt8) (k : Nat) (h : k < l.length) (hb : okB o l[k] = false) : lettersB o l = false := by
 rw [lettersB, List.all_eq_false]
 exact ⟨l[k], List.getElem_mem h, by simp [hb]⟩
theorem toList_get (s : ByteArray) (k : Nat) (h : k < s.size) : s.data.toList[k]'(by simpa using h) = s[k] := rfl
theorem size_len (s : ByteArray) : s.data.toList.length = s.size := by simp
theorem len_fact (s : ByteArray) (most : Nat) : (!s.toList.isEmpty && decide (s.size ≤ most)) = decide (1 ≤ s.data.toList.length ∧ s.data.toList.length ≤ most) := by
 rw [ByteArray.toList_eq, ← size_len s]
 generalize s.data.toList = l
 cases l <;> simp
theorem nil_fact (s : ByteArray) (h : s.toList = []) (most : Nat) (o : List UInt8) : allB most o s.data.toList = false := by
 rw [ByteArray.toList_eq] at h
 rw [h]; rfl
theorem head_get (s : ByteArray) (h : 0 < s.size) : s.data.toList.headD 0 = s[0] := by
 have h' : 0 < s.data.toList.length := by simpa using h
 rw [← toList_get s 0 h]
 have : ∀ (l : List UInt8) (h : 0 < l.length), l.headD 0 = l[0] := by intro l h; cases l with | nil => simp at h | cons a b => rfl
 exact this _ h'
theorem allB_len {most : Nat} {o l : List UInt8} (h : allB most o l = true) : 1 ≤ l.length ∧ l.length ≤ most ∧ lettersB o l = true := by
 simp only [allB, Bool.and_eq_true, decide_eq_true_eq] at h
 exact ⟨h.2.1, h.2.2, h.1⟩
end Go.Proofs.YthppifcggmdmoaaGreatDoor
namespace Go.Proofs.YthppifcggmdmoaaGreatDoor
set_option linter.unusedVariables false
def isLongB (y : Int) : Bool := (y % 4 == 0 && !(y % 100 == 0)) || y % 400 == 0
def longN (y : Int) : Int := if isLongB y then 1 else 0
def lenM (y m : Int) : Int := if m = 2 then 28 + longN y else 30 + (m + m / 8) % 2
def lenOk (y m : Int) : Bool := decide (1600 ≤ y ∧ y ≤ 2399 ∧ 1 ≤ m ∧ m ≤ 12)
def lenV (y m : Int) : Int := if lenOk y m then lenM y m else 0
def lenE (y m : Int) : Int := if lenOk y m then 0 else 1
def yd (y : Int) : Int := 365 * (y - 1970) + ((y - 1) / 4 - (y - 1) / 100 + (y - 1) / 400) - 477
def cum (y m : Int) : Int := if m ≤ 2 then 31 * (m - 1) else (153 * (m - 3) + 2) / 5 + 59 + longN y
def daysN (y m d : Int) : Int := yd y + cum y m + d - 1
def dayOk (y m d : Int) : Bool := lenOk y m && decide (1 ≤ d ∧ d ≤ lenM y m)
def daysV (y m d : Int) : Int := if dayOk y m d then daysN y m d else 0
def daysE (y m d : Int) : Int := if dayOk y m d then 0 else 1

theorem lenOk_iff {y m : Int} : lenOk y m = true ↔ (1600 ≤ y ∧ y ≤ 2399 ∧ 1 ≤ m ∧ m ≤ 12) := by simp [lenOk]
theorem lenOk_no {y m : Int} : lenOk y m = false ↔ ¬ (1600 ≤ y ∧ y ≤ 2399 ∧ 1 ≤ m ∧ m ≤ 12) := by simp [lenOk]
theorem lenV_ok {y m : Int} (h : lenOk y m = true) : lenV y m = lenM y m := by rw [lenV, h]; rfl
theorem lenV_no {y m : Int} (h : lenOk y m = false) : lenV y m = 0 := by rw [lenV, h]; rfl
theorem lenE_ok {y m : Int} (h : lenOk y m = true) : lenE y m = 0 := by rw [lenE, h]; rfl
theorem lenE_no {y m : Int} (h : lenOk y m = false) : lenE y m = 1 := by rw [lenE, h]; rfl
theorem daysV_ok {y m d : Int} (h : dayOk y m d = true) : daysV y m d = daysN y m d := by rw [daysV, h]; rfl
theorem daysV_no {y m d : Int} (h : dayOk y m d = false) : daysV y m d = 0 := by rw [daysV, h]; rfl
theorem daysE_ok {y m d : Int} (h : dayOk y m d = true) : daysE y m d = 0 := by rw [daysE, h]; rfl
theorem daysE_no {y m d : Int} (h : dayOk y m d = false) : daysE y m d = 1 := by rw [daysE, h]; rfl
theorem long01 (y : Int) : longN y = 0 ∨ longN y = 1 := by unfold longN; split <;> simp
theorem long_iff (y : Int) : isLongB y = true ↔ ((y % 4 = 0 ∧ y % 100 ≠ 0) ∨ y % 400 = 0) := by simp [isLongB]
theorem longN_cases (y : Int) : (longN y = 1 ∧ ((y % 4 = 0 ∧ y % 100 ≠ 0) ∨ y % 400 = 0)) ∨ (longN y = 0 ∧ ¬ ((y % 4 = 0 ∧ y % 100 ≠ 0) ∨ y % 400 = 0)) := by
 have := long_iff y
 unfold longN
 by_cases h : isLongB y = true
 ·rw [if_pos h]; exact Or.inl ⟨rfl, this.1 h⟩
 ·rw [if_neg h]; exact Or.inr ⟨rfl, fun k => h (this.2 k)⟩
theorem yd_succ (y : Int) : yd (y + 1) = yd y + 365 + longN y := by
 rcases longN_cases y with ⟨h, k⟩ | ⟨h, k⟩ <;> rw [h] <;> unfold yd <;> omega
theorem lenM_bd (y m : Int) : 28 ≤ lenM y m ∧ lenM y m ≤ 31 := by
 have := long01 y
 unfold lenM; split <;> omega
theorem cum_succ (y m : Int) (h1 : 1 ≤ m) (h2 : m ≤ 12) : cum y (m + 1) = cum y m + lenM y m := by
 have := long01 y
 have : m = 1 ∨ m = 2 ∨ m = 3 ∨ m = 4 ∨ m = 5 ∨ m = 6 ∨ m = 7 ∨ m = 8 ∨ m = 9 ∨ m = 10 ∨ m = 11 ∨ m = 12 := by omega
 rcases this with h | h | h | h | h | h | h | h | h | h | h | h <;> subst h <;> simp [cum, lenM] <;> omega
theorem cum_one (y : Int) : cum y 1 = 0 := rfl
theorem cum_13 (y : Int) : cum y 13 = 365 + longN y := by simp [cum]
theorem cum_bd (y m : Int) (h1 : 1 ≤ m) (h2 : m ≤ 13) : 0 ≤ cum y m ∧ cum y m ≤ 366 := by
 have := long01 y
 unfold cum; split <;> omega
theorem cum_mono (y m k : Int) (h1 : 1 ≤ m) (h : m < k) (h2 : k ≤ 13) : cum y m + lenM y m ≤ cum y k := by
 rw [← cum_succ y m h1 (by omega)]
 have := long01 y
 unfold cum; split <;> split <;> omega
theorem yd_le (a b : Int) (h : a ≤ b) : yd a ≤ yd b := by unfold yd; omega
theorem yd_bd (a : Int) (h : 0 ≤ a) (h : a ≤ 10000) : -719600 ≤ yd a ∧ yd a ≤ 2940000 := by unfold yd; omega
theorem dayOk_iff {y m d : Int} : dayOk y m d = true ↔ (1600 ≤ y ∧ y ≤ 2399 ∧ 1 ≤ m ∧ m ≤ 12 ∧ 1 ≤ d ∧ d ≤ lenM y m) := by
 simp [dayOk, lenOk, and_assoc]
theorem dayOk_no {y m d : Int} : dayOk y m d = false ↔ ¬ (1600 ≤ y ∧ y ≤ 2399 ∧ 1 ≤ m ∧ m ≤ 12 ∧ 1 ≤ d ∧ d ≤ lenM y m) := by
 rw [← dayOk_iff]; cases dayOk y m d <;> simp
theorem daysN_year (y m d : Int) (h1 : 1 ≤ m) (h2 : m ≤ 12) (h3 : 1 ≤ d) (h4 : d ≤ lenM y m) : yd y ≤ daysN y m d ∧ daysN y m d < yd (y + 1) := by
 have a := cum_bd y m h1 (by omega)
 have b := cum_succ y m h1 h2
 have c := cum_13 y
 have e := yd_succ y
 have f : cum y (m + 1) ≤ cum y 13 := by
  by_cases hm : m = 12
  ·subst hm; exact Int.le_refl _
  ·have := cum_mono y (m + 1) 13 (by omega) (by omega) (by omega); have := lenM_bd y (m + 1); omega
 unfold daysN; omega
theorem days_march (y m d : Int) (h0 : 1 ≤ y) (h1 : 1 ≤ m) (h2 : m ≤ 12) :
  (3 ≤ m → 365 * y + y / 4 - y / 100 + y / 400 + (153 * (m - 3) + 2) / 5 + d - 719469 = daysN y m d) ∧
  (m < 3 → 365 * (y - 1) + (y - 1) / 4 - (y - 1) / 100 + (y - 1) / 400 + (153 * (m - 3 + 12) + 2) / 5 + d - 719469 = daysN y m d) := by
 have l := longN_cases y
 refine ⟨fun h => ?_, fun h => ?_⟩
 ·unfold daysN yd cum; rw [if_neg (by omega)]; omega
 ·have : m = 1 ∨ m = 2 := by omega
  rcases this with e | e <;> subst e <;> simp [daysN, yd, cum] <;> omega

def dateOk (n : Int) : Bool := decide (-135140 ≤ n ∧ n ≤ 157053)
def dK (r : Int) : Int := if 3 < r / 36524 then 3 else r / 36524
def dJ (r : Int) : Int := if 3 < r / 365 then 3 else r / 365
def dR1 (n : Int) : Int := (n + 719468) % 146097
def dR2 (n : Int) : Int := dR1 n - 36524 * dK (dR1 n)
def dR3 (n : Int) : Int := dR2 n - 1461 * (dR2 n / 1461)
def dR4 (n : Int) : Int := dR3 n - 365 * dJ (dR3 n)
def dY (n : Int) : Int := (n + 719468) / 146097 * 400 + 100 * dK (dR1 n) + 4 * (dR2 n / 1461) + dJ (dR3 n)
def dMp (n : Int) : Int := (5 * dR4 n + 2) / 153
def dDay (n : Int) : Int := dR4 n - (153 * dMp n + 2) / 5 + 1
def dMon (n : Int) : Int := if 12 < dMp n + 3 then dMp n + 3 - 12 else dMp n + 3
def dYear (n : Int) : Int := if 12 < dMp n + 3 then dY n + 1 else dY n
theorem date_bd (n : Int) (h : dateOk n = true) :
  (0 ≤ dR1 n ∧ dR1 n ≤ 146096) ∧ (0 ≤ dK (dR1 n) ∧ dK (dR1 n) ≤ 3) ∧ (0 ≤ dR2 n ∧ dR2 n ≤ 36524) ∧ (0 ≤ dR3 n ∧ dR3 n ≤ 1460) ∧ (0 ≤ dJ (dR3 n) ∧ dJ (dR3 n) ≤ 3) ∧ (0 ≤ dR4 n ∧ dR4 n ≤ 365) ∧ (0 ≤ dMp n ∧ dMp n ≤ 11) ∧ (0 ≤ dY n ∧ dY n ≤ 3000) := by
 simp only [dateOk, decide_eq_true_eq] at h
 have a : 0 ≤ dR1 n ∧ dR1 n ≤ 146096 := by unfold dR1; omega
 have b : 0 ≤ dK (dR1 n) ∧ dK (dR1 n) ≤ 3 := by unfold dK; split <;> omega
 have c : 0 ≤ dR2 n ∧ dR2 n ≤ 36524 := by
  unfold dR2; generalize dR1 n = r at *; unfold dK at *; split at b <;> rename_i hh <;> simp only [hh, if_true, if_false] <;> omega
 have d : 0 ≤ dR3 n ∧ dR3 n ≤ 1460 := by unfold dR3; omega
 have e : 0 ≤ dJ (dR3 n) ∧ dJ (dR3 n) ≤ 3 := by unfold dJ; split <;> omega
 have f : 0 ≤ dR4 n ∧ dR4 n ≤ 365 := by
  unfold dR4; generalize dR3 n = r at *; unfold dJ at *; split at e <;> rename_i hh <;> simp only [hh, if_true, if_false] <;> omega
 have g : 0 ≤ dMp n ∧ dMp n ≤ 11 := by unfold dMp; omega
 exact ⟨a, b, c, d, e, f, g, by unfold dY; omega⟩
set_option maxHeartbeats 2000000 in
theorem date_ok (n : Int) (h : dateOk n = true) : dayOk (dYear n) (dMon n) (dDay n) = true ∧ daysN (dYear n) (dMon n) (dDay n) = n := by
 obtain ⟨a, b, c, d, e, f, g, y0⟩ := date_bd n h
 have hh : -135140 ≤ n ∧ n ≤ 157053 := by simpa [dateOk] using h
 have hr1 : n + 719468 = 146097 * ((n + 719468) / 146097) + dR1 n := by unfold dR1; omega
 have hr2 : dR2 n = dR1 n - 36524 * dK (dR1 n) := rfl
 have hr3 : dR3 n = dR2 n - 1461 * (dR2 n / 1461) := rfl
 have hr4 : dR4 n = dR3 n - 365 * dJ (dR3 n) := rfl
 have hy : dY n = (n + 719468) / 146097 * 400 + 100 * dK (dR1 n) + 4 * (dR2 n / 1461) + dJ (dR3 n) := rfl
 have hp : dMp n = (5 * dR4 n + 2) / 153 := rfl
 have hd : dDay n = dR4 n - (153 * dMp n + 2) / 5 + 1 := rfl
 have hj : dR4 n = 365 → dJ (dR3 n) = 3 := by
  intro k; unfold dR4 at k; revert k; unfold dJ; split <;> intro k <;> omega
 have hk : dR2 n = 36524 → dK (dR1 n) = 3 := by
  intro k; unfold dR2 at k; revert k; unfold dK; split <;> intro k <;> omega
 have hmon : dMon n = if dMp n + 3 > 12 then dMp n + 3 - 12 else dMp n + 3 := rfl
 have hyear : dYear n = if dMp n + 3 > 12 then dY n + 1 else dY n := rfl
 generalize dMon n = mon at *
 generalize dYear n = yr at *
 generalize dDay n = dd at *
 generalize dMp n = mp at *
 generalize dY n = yy at *
 generalize dJ (dR3 n) = j at *
 generalize dK (dR1 n) = k at *
 generalize dR4 n = r4 at *
 generalize dR3 n = r3 at *
 generalize dR2 n = r2 at *
 generalize dR1 n = r1 at *
 generalize (n + 719468) / 146097 = cc at *
 generalize hq : r2 / 1461 = q at *
 have hq24 : 0 ≤ q ∧ q ≤ 24 := by omega
 have hdays : 365 * yy + yy / 4 - yy / 100 + yy / 400 + (153 * mp + 2) / 5 + dd - 719469 = n := by
  have e1 : yy / 4 = 100 * cc + 25 * k + q := by omega
  have e2 : yy / 100 = 4 * cc + k := by omega
  have e3 : yy / 400 = cc := by omega
  rw [e1, e2, e3]; omega
 have l := longN_cases yr
 have hyb : 1599 ≤ yy ∧ yy ≤ 2399 := by omega
 have hmp : mp = 0 ∨ mp = 1 ∨ mp = 2 ∨ mp = 3 ∨ mp = 4 ∨ mp = 5 ∨ mp = 6 ∨ mp = 7 ∨ mp = 8 ∨ mp = 9 ∨ mp = 10 ∨ mp = 11 := by omega
 have m1 : 1 ≤ mon ∧ mon ≤ 12 := by subst hmon; split <;> omega
 have hyr : 1 ≤ yr := by subst hyear; split <;> omega
 have hdn : daysN yr mon dd = n := by
  have dm := days_march yr mon dd hyr m1.1 m1.2
  by_cases h12 : mp + 3 > 12
  ·rw [if_pos h12] at hmon hyear
   rw [← dm.2 (by omega), hmon, hyear, ← hdays]
   rw [show mp + 3 - 12 - 3 + 12 = mp from by omega, show yy + 1 - 1 = yy from by omega]
  ·rw [if_neg h12] at hmon hyear
   rw [← dm.1 (by omega), hmon, hyear, ← hdays]
   rw [show mp + 3 - 3 = mp from by omega]
 refine ⟨?_, hdn⟩
 rw [dayOk_iff]
 have hlen : 1 ≤ dd ∧ dd ≤ lenM yr mon := by
  refine ⟨by omega, ?_⟩
  by_cases h2 : mon = 2
  ·have hmp11 : mp = 11 := by
    rw [h2] at hmon; by_cases h12 : mp + 3 > 12
    ·rw [if_pos h12] at hmon; omega
    ·rw [if_neg h12] at hmon; omega
   subst hmp11
   have hyr' : yr = yy + 1 := by rw [hyear]; rfl
   have l1 : lenM yr mon = 28 + longN yr := by unfold lenM; rw [if_pos h2]
   rw [l1]
   by_cases h365 : r4 = 365
   ·have hj3 := hj h365
    have hlong : longN yr = 1 := by
     rcases l with ⟨x, _⟩ | ⟨_, x⟩
     ·exact x
     ·exfalso; apply x
      rw [hyr', hy, hj3]
      by_cases h24 : q = 24
      ·have : r2 = 36524 := by omega
       have := hk this
       right; omega
      ·left; omega
    omega
   ·have := long01 yr; omega
  ·have l1 : lenM yr mon = 30 + (mon + mon / 8) % 2 := by unfold lenM; rw [if_neg h2]
   rw [l1]
   rcases hmp with z | z | z | z | z | z | z | z | z | z | z | z <;> subst z <;> simp at hmon <;> subst hmon <;> omega
 refine ⟨?_, ?_, m1.1, m1.2, hlen⟩
 ·have a1 := (daysN_year yr mon dd m1.1 m1.2 hlen.1 hlen.2).2
  rw [hdn] at a1
  by_cases c9 : yr + 1 ≤ 1600
  ·have := yd_le (yr + 1) 1600 c9; have : yd 1600 = -135140 := by decide
   omega
  ·omega
 ·have a1 := (daysN_year yr mon dd m1.1 m1.2 hlen.1 hlen.2).1
  rw [hdn] at a1
  by_cases c9 : 2400 ≤ yr
  ·have := yd_le 2400 yr c9; have : yd 2400 = 157054 := by decide
   omega
  ·omega
theorem days_in {y m d : Int} (h : dayOk y m d = true) : dateOk (daysN y m d) = true := by
 rw [dayOk_iff] at h
 obtain ⟨h1, h2, h3, h4, h5, h6⟩ := h
 have a := daysN_year y m d h3 h4 h5 h6
 have b := yd_le 1600 y h1
 have c := yd_le (y + 1) 2400 (by omega)
 have e : yd 1600 = -135140 := by decide
 have f : yd 2400 = 157054 := by decide
 simp only [dateOk, decide_eq_true_eq]; omega
end Go.Proofs.YthppifcggmdmoaaGreatDoor
namespace Go.Proofs.YthppifcggmdmoaaGreatDoor
set_option linter.unusedVariables false
def dcOk (k wd n : Int) : Bool := decide ((k = 1 ∧ wd = 0 ∧ 1 ≤ n ∧ n ≤ 31) ∨ (k = 2 ∧ 0 ≤ wd ∧ wd ≤ 6 ∧ n = 0) ∨ ((k = 3 ∨ k = 4) ∧ 0 ≤ wd ∧ wd ≤ 6 ∧ 1 ≤ n ∧ n ≤ 31))
def dcE (k wd n : Int) : Int := if dcOk k wd n then 0 else 1
theorem dcOk_iff {k wd n : Int} : dcOk k wd n = true ↔ ((k = 1 ∧ wd = 0 ∧ 1 ≤ n ∧ n ≤ 31) ∨ (k = 2 ∧ 0 ≤ wd ∧ wd ≤ 6 ∧ n = 0) ∨ ((k = 3 ∨ k = 4) ∧ 0 ≤ wd ∧ wd ≤ 6 ∧ 1 ≤ n ∧ n ≤ 31)) := by simp [dcOk]
theorem dcOk_no {k wd n : Int} : dcOk k wd n = false ↔ ¬ ((k = 1 ∧ wd = 0 ∧ 1 ≤ n ∧ n ≤ 31) ∨ (k = 2 ∧ 0 ≤ wd ∧ wd ≤ 6 ∧ n = 0) ∨ ((k = 3 ∨ k = 4) ∧ 0 ≤ wd ∧ wd ≤ 6 ∧ 1 ≤ n ∧ n ≤ 31)) := by
 rw [← dcOk_iff]; cases dcOk k wd n <;> simp
theorem dcE_ok {k wd n : Int} (h : dcOk k wd n = true) : dcE k wd n = 0 := by rw [dcE, h]; rfl
theorem dcE_no {k wd n : Int} (h : dcOk k wd n = false) : dcE k wd n = 1 := by rw [dcE, h]; rfl
def dofS (y m k n : Int) : Int := if k = 2 then daysN y m 1 + lenM y m - 1 else daysN y m 1 + n - 1
def dofAt (y m k wd n : Int) : Int :=
 if k = 1 then dofS y m k n else if k = 3 then dofS y m k n + (wd - dofS y m k n - 4) % 7 else dofS y m k n - (dofS y m k n + 4 - wd) % 7
def dofE (y m k wd n : Int) : Int := if dcOk k wd n then if lenOk y m then if lenM y m < n then 6 else if dateOk (dofAt y m k wd n) then 0 else 1 else 1 else 1
def dofV (y m k wd n : Int) : Int := if dofE y m k wd n = 0 then dofAt y m k wd n else 0
theorem dof_bad {y m k wd n : Int} (h : dcOk k wd n = false) : dofV y m k wd n = 0 ∧ dofE y m k wd n = 1 := by simp [dofV, dofE, h]
theorem dof_len {y m k wd n : Int} (h : dcOk k wd n = true) (h2 : lenOk y m = false) : dofV y m k wd n = 0 ∧ dofE y m k wd n = 1 := by simp [dofV, dofE, h, h2]
theorem dof_none {y m k wd n : Int} (h : dcOk k wd n = true) (h2 : lenOk y m = true) (h3 : lenM y m < n) : dofV y m k wd n = 0 ∧ dofE y m k wd n = 6 := by simp [dofV, dofE, h, h2, h3]
theorem dof_out {y m k wd n : Int} (h : dcOk k wd n = true) (h2 : lenOk y m = true) (h3 : n ≤ lenM y m) (h4 : dateOk (dofAt y m k wd n) = false) : dofV y m k wd n = 0 ∧ dofE y m k wd n = 1 := by
 simp [dofV, dofE, h, h2, show ¬ lenM y m < n by omega, h4]
theorem dof_in {y m k wd n : Int} (h : dcOk k wd n = true) (h2 : lenOk y m = true) (h3 : n ≤ lenM y m) (h4 : dateOk (dofAt y m k wd n) = true) : dofV y m k wd n = dofAt y m k wd n ∧ dofE y m k wd n = 0 := by
 simp [dofV, dofE, h, h2, show ¬ lenM y m < n by omega, h4]
theorem dateOk_iff {n : Int} : dateOk n = true ↔ (-135140 ≤ n ∧ n ≤ 157053) := by simp [dateOk]
theorem dateOk_no {n : Int} : dateOk n = false ↔ ¬ (-135140 ≤ n ∧ n ≤ 157053) := by simp [dateOk]
theorem month_in {y m : Int} (h : lenOk y m = true) : -135140 ≤ daysN y m 1 ∧ daysN y m 1 + lenM y m - 1 ≤ 157053 := by
 obtain ⟨h1, h2, h3, h4⟩ := lenOk_iff.1 h
 have b := lenM_bd y m
 have a := dateOk_iff.1 (days_in (dayOk_iff.2 ⟨h1, h2, h3, h4, show (1:Int) ≤ 1 by omega, by omega⟩))
 have c := dateOk_iff.1 (days_in (dayOk_iff.2 ⟨h1, h2, h3, h4, show (1:Int) ≤ lenM y m by omega, Int.le_refl _⟩))
 unfold daysN at *; omega
end Go.Proofs.YthppifcggmdmoaaGreatDoor
namespace Go.Proofs.YthppifcggmdmoaaGreatDoor
set_option linter.unusedVariables false
def ruleS (name letter : ByteArray) : Bool := isNameB name.data.toList && ((letter.toList == [45]) || isAbbrB letter.data.toList)
def ruleN (f t m k wd n a b sv : Int) : Bool :=
 decide (1900 ≤ f ∧ f ≤ 2100 ∧ f ≤ t ∧ t ≤ 2100 ∧ 1 ≤ m ∧ m ≤ 12) && dcOk k wd n && decide (n ≤ lenV 1901 m ∧ -604800 ≤ a ∧ a ≤ 604800 ∧ 0 ≤ b ∧ b ≤ 2 ∧ 0 ≤ sv ∧ sv ≤ 10800)
def ruleE (name letter : ByteArray) (f t m k wd n a b sv : Int) : Int := if ruleS name letter then if ruleN f t m k wd n a b sv then 0 else 1 else 3
theorem ruleE_3 {name letter : ByteArray} {f t m k wd n a b sv : Int} (h : ruleS name letter = false) : ruleE name letter f t m k wd n a b sv = 3 := by rw [ruleE, h]; rfl
theorem ruleE_1 {name letter : ByteArray} {f t m k wd n a b sv : Int} (h : ruleS name letter = true) (g : ruleN f t m k wd n a b sv = false) : ruleE name letter f t m k wd n a b sv = 1 := by rw [ruleE, h, g]; rfl
theorem ruleE_0 {name letter : ByteArray} {f t m k wd n a b sv : Int} (h : ruleS name letter = true) (g : ruleN f t m k wd n a b sv = true) : ruleE name letter f t m k wd n a b sv = 0 := by rw [ruleE, h, g]; rfl
theorem ruleN_iff {f t m k wd n a b sv : Int} : ruleN f t m k wd n a b sv = true ↔ (1900 ≤ f ∧ f ≤ 2100 ∧ f ≤ t ∧ t ≤ 2100 ∧ 1 ≤ m ∧ m ≤ 12) ∧ dcOk k wd n = true ∧ (n ≤ lenV 1901 m ∧ -604800 ≤ a ∧ a ≤ 604800 ∧ 0 ≤ b ∧ b ≤ 2 ∧ 0 ≤ sv ∧ sv ≤ 10800) := by
 simp only [ruleN, Bool.and_eq_true, decide_eq_true_eq, and_assoc]
theorem ruleN_no {f t m k wd n a b sv : Int} (h : ¬ ((1900 ≤ f ∧ f ≤ 2100 ∧ f ≤ t ∧ t ≤ 2100 ∧ 1 ≤ m ∧ m ≤ 12) ∧ dcOk k wd n = true ∧ (n ≤ lenV 1901 m ∧ -604800 ≤ a ∧ a ≤ 604800 ∧ 0 ≤ b ∧ b ≤ 2 ∧ 0 ≤ sv ∧ sv ≤ 10800))) : ruleN f t m k wd n a b sv = false := by
 rw [← Bool.not_eq_true, ruleN_iff]; exact h
theorem dc_ok {k wd n : Int} (h : dcE k wd n = 0) : dcOk k wd n = true := by
 cases e : dcOk k wd n with
 | true => rfl
 | false => rw [dcE_no e] at h; omega
theorem dc_no {k wd n : Int} (h : ¬ dcE k wd n = 0) : dcOk k wd n = false ∧ dcE k wd n = 1 := by
 cases e : dcOk k wd n with
 | true => exact absurd (dcE_ok e) h
 | false => exact ⟨rfl, dcE_no e⟩
end Go.Proofs.YthppifcggmdmoaaGreatDoor
namespace Go.Proofs.YthppifcggmdmoaaGreatDoor
set_option linter.unusedVariables false
def ixB (F : ByteArray) (c : UInt8) : Int := Lib.indexByte F.data.toList c
def cutA (F : ByteArray) (c : UInt8) : ByteArray := F.extract 0 (ixB F c).toNat
def cutB (F : ByteArray) (c : UInt8) : ByteArray := F.extract ((ixB F c).toNat + 1) F.size
def pctOk (ab : ByteArray) : Bool := decide (ab.size = 0) || isAbbrB ab.data.toList
def fmtOk (F : ByteArray) : Bool :=
 if 12 < F.size then false else
 if 0 ≤ ixB F 47 then isAbbrB (cutA F 47).data.toList && isAbbrB (cutB F 47).data.toList
 else if 0 ≤ ixB F 37 then pctOk (cutA F 37 ++ cutB F 37) else isAbbrB F.data.toList
def letV (letter : ByteArray) : ByteArray := if letter.toList == [45] then ⟨#[]⟩ else letter
def fmtOut (F : ByteArray) (save : Int) (letter : ByteArray) : ByteArray :=
 if 0 ≤ ixB F 47 then if save = 0 then cutA F 47 else cutB F 47
 else if 0 ≤ ixB F 37 then cutA F 37 ++ (letV letter ++ cutB F 37) else F
def letOk (letter : ByteArray) : Bool := (letter.toList == [45]) || isAbbrB letter.data.toList
def abE (F : ByteArray) (save : Int) (letter : ByteArray) : Int :=
 if (fmtOk F && letOk letter) = true then if 0 ≤ save ∧ save ≤ 10800 then if 8 < (fmtOut F save letter).size then 2 else if (fmtOut F save letter).size = 0 then 5 else 0 else 1 else 3
def abV (F : ByteArray) (save : Int) (letter : ByteArray) : ByteArray := if abE F save letter = 0 then fmtOut F save letter else ⟨#[]⟩
theorem ab_3 {F letter : ByteArray} {save : Int} (h : (fmtOk F && letOk letter) = false) : abE F save letter = 3 ∧ abV F save letter = ⟨#[]⟩ := by
 have : abE F save letter = 3 := by rw [abE, h]; rfl
 exact ⟨this, by rw [abV, this]; rfl⟩
theorem ab_1 {F letter : ByteArray} {save : Int} (h : (fmtOk F && letOk letter) = true) (h2 : ¬ (0 ≤ save ∧ save ≤ 10800)) : abE F save letter = 1 ∧ abV F save letter = ⟨#[]⟩ := by
 have : abE F save letter = 1 := by rw [abE, if_pos h, if_neg h2]
 exact ⟨this, by rw [abV, this]; rfl⟩
theorem ab_2 {F letter : ByteArray} {save : Int} (h : (fmtOk F && letOk letter) = true) (h2 : 0 ≤ save ∧ save ≤ 10800) (h3 : 8 < (fmtOut F save letter).size) : abE F save letter = 2 ∧ abV F save letter = ⟨#[]⟩ := by
 have : abE F save letter = 2 := by rw [abE, if_pos h, if_pos h2, if_pos h3]
 exact ⟨this, by rw [abV, this]; rfl⟩
theorem ab_5 {F letter : ByteArray} {save : Int} (h : (fmtOk F && letOk letter) = true) (h2 : 0 ≤ save ∧ save ≤ 10800) (h3 : (fmtOut F save letter).size = 0) : abE F save letter = 5 ∧ abV F save letter = ⟨#[]⟩ := by
 have : abE F save letter = 5 := by rw [abE, if_pos h, if_pos h2, if_neg (by omega), if_pos h3]
 exact ⟨this, by rw [abV, this]; rfl⟩
theorem ab_0 {F letter : ByteArray} {save : Int} (h : (fmtOk F && letOk letter) = true) (h2 : 0 ≤ save ∧ save ≤ 10800) (h3 : ¬ 8 < (fmtOut F save letter).size) (h4 : ¬ (fmtOut F save letter).size = 0) : abE F save letter = 0 ∧ abV F save letter = fmtOut F save letter := by
 have : abE F save letter = 0 := by rw [abE, if_pos h, if_pos h2, if_neg h3, if_neg h4]
 exact ⟨this, by rw [abV, this]; rfl⟩
theorem ix_cases (F : ByteArray) (c : UInt8) : ixB F c = -1 ∨ ∃ k : Nat, ixB F c = k ∧ k < F.size := by
 have h := Lib.indexByte_ge F.data.toList c
 by_cases h1 : ixB F c = -1
 ·exact Or.inl h1
 ·obtain ⟨k, hk⟩ := Int.eq_ofNat_of_zero_le (show 0 ≤ ixB F c by unfold ixB at *; omega)
  refine Or.inr ⟨k, hk, ?_⟩
  have := (Lib.indexByte_some (show Lib.indexByte F.data.toList c = (k : Int) from hk)).1
  have := (List.getElem?_eq_some_iff.1 this).1
  simpa using this
end Go.Proofs.YthppifcggmdmoaaGreatDoor
namespace Go.Proofs.YthppifcggmdmoaaGreatDoor
set_option linter.unusedVariables false
def twoB (n : Nat) : ByteArray := ⟨#[UInt8.ofNat (48 + n / 10), UInt8.ofNat (48 + n % 10)]⟩
def digB (n : Nat) : ByteArray := ⟨(Lib.decDigits n).toArray⟩
def spanT (n : Nat) : ByteArray := if n % 60 = 0 then digB (n / 3600) ++ ⟨#[58]⟩ ++ twoB (n / 60 % 60) else digB (n / 3600) ++ ⟨#[58]⟩ ++ twoB (n / 60 % 60) ++ (⟨#[58]⟩ ++ twoB (n % 60))
def spOk (n : Int) : Bool := decide (-604800 ≤ n ∧ n ≤ 604800)
def spE (n : Int) : Int := if spOk n then 0 else 1
def spV (n : Int) : ByteArray := if spOk n then (if n < 0 then ⟨#[45]⟩ ++ spanT n.natAbs else spanT n.natAbs) else ⟨#[]⟩
theorem dec_small {n : Nat} (h : n < 10) : Lib.decDigits n = [UInt8.ofNat (48 + n)] := by rw [Lib.decDigits, dif_pos h]
theorem dec_more {n : Nat} (h : ¬ n < 10) : Lib.decDigits n = Lib.decDigits (n / 10) ++ [UInt8.ofNat (48 + n % 10)] := by rw [Lib.decDigits, dif_neg h]
theorem dec_len3 {n : Nat} (h : n < 1000) : (Lib.decDigits n).length ≤ 3 := by
 by_cases h1 : n < 10
 ·rw [dec_small h1]; simp
 ·rw [dec_more h1, List.length_append]
  by_cases h2 : n / 10 < 10
  ·rw [dec_small h2]; simp
  ·rw [dec_more h2, dec_small (show n / 10 / 10 < 10 by omega)]; simp
theorem dec_size (n : Nat) : (⟨(Lib.decDigits n).toArray⟩ : ByteArray).size = (Lib.decDigits n).length := by simp [ByteArray.size]
theorem spOk_iff {n : Int} : spOk n = true ↔ (-604800 ≤ n ∧ n ≤ 604800) := by simp [spOk]
theorem spV_no {n : Int} (h : spOk n = false) : spV n = ⟨#[]⟩ ∧ spE n = 1 := by simp [spV, spE, h]
theorem spV_pos {m : Nat} (h : m ≤ 604800) : spV (m : Int) = spanT m ∧ spE (m : Int) = 0 := by
 have : spOk (m : Int) = true := spOk_iff.2 (by omega)
 simp [spV, spE, this]; intro; omega
theorem spV_neg {m : Nat} (h : m ≤ 604800) (h0 : 0 < m) : spV (-(m : Int)) = ⟨#[45]⟩ ++ spanT m ∧ spE (-(m : Int)) = 0 := by
 have : spOk (-(m : Int)) = true := spOk_iff.2 (by omega)
 simp only [spV, spE, this, if_true]
 rw [if_pos (by omega)]; simp
theorem span_0 {n : Nat} (h : n % 60 = 0) : spanT n = digB (n / 3600) ++ ⟨#[58]⟩ ++ twoB (n / 60 % 60) := by rw [spanT, if_pos h]
theorem span_1 {n : Nat} (h : ¬ n % 60 = 0) : spanT n = digB (n / 3600) ++ ⟨#[58]⟩ ++ twoB (n / 60 % 60) ++ (⟨#[58]⟩ ++ twoB (n % 60)) := by rw [spanT, if_neg h]
end Go.Proofs.YthppifcggmdmoaaGreatDoor
namespace Go.Proofs.YthppifcggmdmoaaGreatDoor
set_option linter.unusedVariables false
def stT (y m d r : Nat) : ByteArray := digB y ++ ⟨#[45]⟩ ++ twoB m ++ ⟨#[45]⟩ ++ twoB d ++ ⟨#[84]⟩ ++ twoB (r / 3600) ++ ⟨#[58]⟩ ++ twoB (r / 60 % 60) ++ ⟨#[58]⟩ ++ twoB (r % 60)
def stE (t : Int) : Int := if dateOk (t / 86400) then 0 else 1
def stV (t : Int) : ByteArray := if dateOk (t / 86400) then stT (dYear (t / 86400)).toNat (dMon (t / 86400)).toNat (dDay (t / 86400)).toNat (t % 86400).toNat else ⟨#[]⟩
theorem st_no {t : Int} (h : dateOk (t / 86400) = false) : stV t = ⟨#[]⟩ ∧ stE t = 1 := by simp [stV, stE, h]
theorem st_ok {t : Int} (h : dateOk (t / 86400) = true) : stV t = stT (dYear (t / 86400)).toNat (dMon (t / 86400)).toNat (dDay (t / 86400)).toNat (t % 86400).toNat ∧ stE t = 0 := by simp [stV, stE, h]
theorem date_nat {n : Int} (h : dateOk n = true) : (∃ y : Nat, dYear n = y ∧ 1600 ≤ y ∧ y ≤ 2399) ∧ (∃ m : Nat, dMon n = m ∧ m < 100) ∧ (∃ d : Nat, dDay n = d ∧ d < 100) := by
 obtain ⟨a1, a2, a3, a4, a5, a6⟩ := dayOk_iff.1 (date_ok n h).1
 have := lenM_bd (dYear n) (dMon n)
 exact ⟨⟨(dYear n).toNat, by omega, by omega, by omega⟩, ⟨(dMon n).toNat, by omega, by omega⟩, ⟨(dDay n).toNat, by omega, by omega⟩⟩
theorem dec_len4 {n : Nat} (h : 1000 ≤ n) (h2 : n < 10000) : (Lib.decDigits n).length = 4 := by
 rw [dec_more (by omega), dec_more (show ¬ n / 10 < 10 by omega), dec_more (show ¬ n / 10 / 10 < 10 by omega), dec_small (show n / 10 / 10 / 10 < 10 by omega)]; rfl
end Go.Proofs.YthppifcggmdmoaaGreatDoor
namespace Go.Proofs.YthppifcggmdmoaaGreatDoor
set_option linter.unusedVariables false
def WK : ByteArray := ⟨#[83, 117, 110, 77, 111, 110, 84, 117, 101, 87, 101, 100, 84, 104, 117, 70, 114, 105, 83, 97, 116]⟩
def wordV (wd : Int) : ByteArray := WK.extract (3 * wd).toNat (3 * wd + 3).toNat
def digV (n : Int) : ByteArray := ⟨(Lib.decDigits n.toNat).toArray⟩
def dtT (k wd n : Int) : ByteArray :=
 if k = 2 then ⟨#[108, 97, 115, 116]⟩ ++ wordV wd else if k = 3 then wordV wd ++ ⟨#[62, 61]⟩ ++ digV n else if k = 4 then wordV wd ++ ⟨#[60, 61]⟩ ++ digV n else digV n
def dtV (k wd n : Int) : ByteArray := if dcOk k wd n then dtT k wd n else ⟨#[]⟩
theorem dtV_no {k wd n : Int} (h : dcOk k wd n = false) : dtV k wd n = ⟨#[]⟩ := by rw [dtV, h]; rfl
theorem dtV_ok {k wd n : Int} (h : dcOk k wd n = true) : dtV k wd n = dtT k wd n := by rw [dtV, h]; rfl
theorem dtT_1 {wd n : Int} : dtT 1 wd n = digV n := rfl
theorem dtT_2 {wd n : Int} : dtT 2 wd n = ⟨#[108, 97, 115, 116]⟩ ++ wordV wd := rfl
theorem dtT_3 {wd n : Int} : dtT 3 wd n = wordV wd ++ ⟨#[62, 61]⟩ ++ digV n := rfl
theorem dtT_4 {wd n : Int} : dtT 4 wd n = wordV wd ++ ⟨#[60, 61]⟩ ++ digV n := rfl
theorem wk_size : WK.size = 21 := rfl
theorem dig_small {n : Nat} (h : n < 10) : Lib.decDigits n = [UInt8.ofNat (48 + n)] := by rw [Lib.decDigits, dif_pos h]
theorem dig_two {n : Nat} (h : ¬ n < 10) : Lib.decDigits n = Lib.decDigits (n / 10) ++ [UInt8.ofNat (48 + n % 10)] := by rw [Lib.decDigits, dif_neg h]
theorem dig_size {n : Nat} (h : n < 100) : (⟨(Lib.decDigits n).toArray⟩ : ByteArray).size ≤ 2 := by
 by_cases h1 : n < 10
 ·rw [dig_small h1]; show 1 ≤ 2; omega
 ·rw [dig_two h1, dig_small (show n / 10 < 10 by omega)]; show 2 ≤ 2; omega
theorem word_sz {wd : Int} (h : 0 ≤ wd ∧ wd ≤ 6) : (wordV wd).size = 3 := by
 rw [wordV, ByteArray.size_extract, wk_size]; omega
theorem day_cases {k wd n : Int} (h : dcOk k wd n = true) : (k = 1 ∨ k = 2 ∨ k = 3 ∨ k = 4) ∧ (∃ j : Nat, wd = j ∧ j ≤ 6) ∧ ∃ m : Nat, n = m ∧ m ≤ 31 := by
 have := dcOk_iff.1 h
 refine ⟨by omega, ⟨wd.toNat, by omega, by omega⟩, n.toNat, by omega, by omega⟩
end Go.Proofs.YthppifcggmdmoaaGreatDoor

