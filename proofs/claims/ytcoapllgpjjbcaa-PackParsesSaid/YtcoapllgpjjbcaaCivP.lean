/- The calendar in plain integers: what civil's functions and the reference's compute. Nothing of the program here. -/
import Derived.WalkKit
namespace Go.Proofs.Ytcoapllgpjjbcaa
set_option linter.unusedVariables false
/-- is a year long (of years from 0 on) -/
def isLongB (y : Int) : Bool := (y % 4 == 0 && !(y % 100 == 0)) || y % 400 == 0
def longN (y : Int) : Int := if isLongB y then 1 else 0
def lenM (y m : Int) : Int := if m = 2 then 28 + longN y else 30 + (m + m / 8) % 2
def lenOk (y m : Int) : Bool := decide (1600 ≤ y ∧ y ≤ 2399 ∧ 1 ≤ m ∧ m ≤ 12)
def lenV (y m : Int) : Int := if lenOk y m then lenM y m else 0
def lenE (y m : Int) : Int := if lenOk y m then 0 else 1
/-- the first day of a year -/
def yd (y : Int) : Int := 365 * (y - 1970) + ((y - 1) / 4 - (y - 1) / 100 + (y - 1) / 400) - 477
/-- days of the months ahead of a month -/
def cum (y m : Int) : Int := if m ≤ 2 then 31 * (m - 1) else (153 * (m - 3) + 2) / 5 + 59 + longN y
def daysN (y m d : Int) : Int := yd y + cum y m + d - 1
def dayOk (y m d : Int) : Bool := lenOk y m && decide (1 ≤ d ∧ d ≤ lenM y m)
def daysV (y m d : Int) : Int := if dayOk y m d then daysN y m d else 0
def daysE (y m d : Int) : Int := if dayOk y m d then 0 else 1

theorem lenOk_iff {y m : Int} : lenOk y m = true ↔ (1600 ≤ y ∧ y ≤ 2399 ∧ 1 ≤ m ∧ m ≤ 12) := by simp [lenOk]
theorem lenOk_no {y m : Int} : lenOk y m = false ↔ ¬ (1600 ≤ y ∧ y ≤ 2399 ∧ 1 ≤ m ∧ m ≤ 12) := by simp [lenOk]
theorem lenV_ok {y m : Int} (h : lenOk y m = true) : lenV y m = lenM y m := by rw [lenV, h]; rfl
theorem lenV_no {y m : Int} (h : lenOk y m = false) : lenV y m = 0 := by rw [lenV, h]; rfl
theorem lenE_ok {y m : Int} (h : lenOk y m = true) : lenE y m = 0 := by rw [lenE, h]; rfl
theorem lenE_no {y m : Int} (h : lenOk y m = false) : lenE y m = 1 := by rw [lenE, h]; rfl
theorem daysV_ok {y m d : Int} (h : dayOk y m d = true) : daysV y m d = daysN y m d := by rw [daysV, h]; rfl
theorem daysV_no {y m d : Int} (h : dayOk y m d = false) : daysV y m d = 0 := by rw [daysV, h]; rfl
theorem daysE_ok {y m d : Int} (h : dayOk y m d = true) : daysE y m d = 0 := by rw [daysE, h]; rfl
theorem daysE_no {y m d : Int} (h : dayOk y m d = false) : daysE y m d = 1 := by rw [daysE, h]; rfl
theorem long01 (y : Int) : longN y = 0 ∨ longN y = 1 := by unfold longN; split <;> simp
theorem long_iff (y : Int) : isLongB y = true ↔ ((y % 4 = 0 ∧ y % 100 ≠ 0) ∨ y % 400 = 0) := by simp [isLongB]
theorem longN_cases (y : Int) : (longN y = 1 ∧ ((y % 4 = 0 ∧ y % 100 ≠ 0) ∨ y % 400 = 0)) ∨ (longN y = 0 ∧ ¬ ((y % 4 = 0 ∧ y % 100 ≠ 0) ∨ y % 400 = 0)) := by
  have := long_iff y
  unfold longN
  by_cases h : isLongB y = true
  · rw [if_pos h]; exact Or.inl ⟨rfl, this.1 h⟩
  · rw [if_neg h]; exact Or.inr ⟨rfl, fun k => h (this.2 k)⟩
theorem yd_succ (y : Int) : yd (y + 1) = yd y + 365 + longN y := by
  rcases longN_cases y with ⟨h, k⟩ | ⟨h, k⟩ <;> rw [h] <;> unfold yd <;> omega
theorem lenM_bd (y m : Int) : 28 ≤ lenM y m ∧ lenM y m ≤ 31 := by
  have := long01 y
  unfold lenM; split <;> omega
theorem cum_succ (y m : Int) (h1 : 1 ≤ m) (h2 : m ≤ 12) : cum y (m + 1) = cum y m + lenM y m := by
  have := long01 y
  have : m = 1 ∨ m = 2 ∨ m = 3 ∨ m = 4 ∨ m = 5 ∨ m = 6 ∨ m = 7 ∨ m = 8 ∨ m = 9 ∨ m = 10 ∨ m = 11 ∨ m = 12 := by omega
  rcases this with h | h | h | h | h | h | h | h | h | h | h | h <;> subst h <;> simp [cum, lenM] <;> omega
theorem cum_one (y : Int) : cum y 1 = 0 := rfl
theorem cum_13 (y : Int) : cum y 13 = 365 + longN y := by simp [cum]
theorem cum_bd (y m : Int) (h1 : 1 ≤ m) (h2 : m ≤ 13) : 0 ≤ cum y m ∧ cum y m ≤ 366 := by
  have := long01 y
  unfold cum; split <;> omega
theorem cum_mono (y m k : Int) (h1 : 1 ≤ m) (h : m < k) (h2 : k ≤ 13) : cum y m + lenM y m ≤ cum y k := by
  rw [← cum_succ y m h1 (by omega)]
  have := long01 y
  unfold cum; split <;> split <;> omega
theorem yd_mono (a b : Int) (h : a < b) : yd a + 365 + longN a ≤ yd b := by
  rw [← yd_succ]; unfold yd; omega
theorem yd_le (a b : Int) (h : a ≤ b) : yd a ≤ yd b := by unfold yd; omega
theorem yd_bd (a : Int) (h : 0 ≤ a) (h : a ≤ 10000) : -719600 ≤ yd a ∧ yd a ≤ 2940000 := by unfold yd; omega
theorem dayOk_iff {y m d : Int} : dayOk y m d = true ↔ (1600 ≤ y ∧ y ≤ 2399 ∧ 1 ≤ m ∧ m ≤ 12 ∧ 1 ≤ d ∧ d ≤ lenM y m) := by
  simp [dayOk, lenOk, and_assoc]
theorem dayOk_no {y m d : Int} : dayOk y m d = false ↔ ¬ (1600 ≤ y ∧ y ≤ 2399 ∧ 1 ≤ m ∧ m ≤ 12 ∧ 1 ≤ d ∧ d ≤ lenM y m) := by
  rw [← dayOk_iff]; cases dayOk y m d <;> simp
theorem daysN_year (y m d : Int) (h1 : 1 ≤ m) (h2 : m ≤ 12) (h3 : 1 ≤ d) (h4 : d ≤ lenM y m) : yd y ≤ daysN y m d ∧ daysN y m d < yd (y + 1) := by
  have a := cum_bd y m h1 (by omega)
  have b := cum_succ y m h1 h2
  have c := cum_13 y
  have e := yd_succ y
  have f : cum y (m + 1) ≤ cum y 13 := by
    by_cases hm : m = 12
    · subst hm; exact Int.le_refl _
    · have := cum_mono y (m + 1) 13 (by omega) (by omega) (by omega); have := lenM_bd y (m + 1); omega
  unfold daysN; omega
theorem daysN_inj {y m d y' m' d' : Int} (h : dayOk y m d = true) (h' : dayOk y' m' d' = true) (e : daysN y m d = daysN y' m' d') : y = y' ∧ m = m' ∧ d = d' := by
  rw [dayOk_iff] at h h'
  obtain ⟨h1, h2, h3, h4, h5, h6⟩ := h
  obtain ⟨k1, k2, k3, k4, k5, k6⟩ := h'
  have a := daysN_year y m d h3 h4 h5 h6
  have b := daysN_year y' m' d' k3 k4 k5 k6
  have hy : y = y' := by
    by_cases c : y < y'
    · have := yd_le (y + 1) y' (by omega); omega
    · by_cases c : y' < y
      · have := yd_le (y' + 1) y (by omega); omega
      · omega
  subst hy
  have hm : m = m' := by
    by_cases c : m < m'
    · have := cum_mono y m m' h3 c (by omega); unfold daysN at e; omega
    · by_cases c : m' < m
      · have := cum_mono y m' m k3 c (by omega); unfold daysN at e; omega
      · omega
  subst hm
  refine ⟨rfl, rfl, ?_⟩
  unfold daysN at e; omega

/-- the days as the program reckons them: years begin with March -/
theorem days_march (y m d : Int) (h0 : 1 ≤ y) (h1 : 1 ≤ m) (h2 : m ≤ 12) :
    (3 ≤ m → 365 * y + y / 4 - y / 100 + y / 400 + (153 * (m - 3) + 2) / 5 + d - 719469 = daysN y m d) ∧
    (m < 3 → 365 * (y - 1) + (y - 1) / 4 - (y - 1) / 100 + (y - 1) / 400 + (153 * (m - 3 + 12) + 2) / 5 + d - 719469 = daysN y m d) := by
  have l := longN_cases y
  refine ⟨fun h => ?_, fun h => ?_⟩
  · unfold daysN yd cum; rw [if_neg (by omega)]; omega
  · have : m = 1 ∨ m = 2 := by omega
    rcases this with e | e <;> subst e <;> simp [daysN, yd, cum] <;> omega

def dateOk (n : Int) : Bool := decide (-135140 ≤ n ∧ n ≤ 157053)
def dK (r : Int) : Int := if 3 < r / 36524 then 3 else r / 36524
def dJ (r : Int) : Int := if 3 < r / 365 then 3 else r / 365
def dR1 (n : Int) : Int := (n + 719468) % 146097
def dR2 (n : Int) : Int := dR1 n - 36524 * dK (dR1 n)
def dR3 (n : Int) : Int := dR2 n - 1461 * (dR2 n / 1461)
def dR4 (n : Int) : Int := dR3 n - 365 * dJ (dR3 n)
def dY (n : Int) : Int := (n + 719468) / 146097 * 400 + 100 * dK (dR1 n) + 4 * (dR2 n / 1461) + dJ (dR3 n)
def dMp (n : Int) : Int := (5 * dR4 n + 2) / 153
def dDay (n : Int) : Int := dR4 n - (153 * dMp n + 2) / 5 + 1
def dMon (n : Int) : Int := if 12 < dMp n + 3 then dMp n + 3 - 12 else dMp n + 3
def dYear (n : Int) : Int := if 12 < dMp n + 3 then dY n + 1 else dY n
theorem date_bd (n : Int) (h : dateOk n = true) :
    (0 ≤ dR1 n ∧ dR1 n ≤ 146096) ∧ (0 ≤ dK (dR1 n) ∧ dK (dR1 n) ≤ 3) ∧ (0 ≤ dR2 n ∧ dR2 n ≤ 36524) ∧ (0 ≤ dR3 n ∧ dR3 n ≤ 1460) ∧ (0 ≤ dJ (dR3 n) ∧ dJ (dR3 n) ≤ 3) ∧ (0 ≤ dR4 n ∧ dR4 n ≤ 365) ∧ (0 ≤ dMp n ∧ dMp n ≤ 11) ∧ (0 ≤ dY n ∧ dY n ≤ 3000) := by
  simp only [dateOk, decide_eq_true_eq] at h
  have a : 0 ≤ dR1 n ∧ dR1 n ≤ 146096 := by unfold dR1; omega
  have b : 0 ≤ dK (dR1 n) ∧ dK (dR1 n) ≤ 3 := by unfold dK; split <;> omega
  have c : 0 ≤ dR2 n ∧ dR2 n ≤ 36524 := by
    unfold dR2; generalize dR1 n = r at *; unfold dK at *; split at b <;> rename_i hh <;> simp only [hh, if_true, if_false] <;> omega
  have d : 0 ≤ dR3 n ∧ dR3 n ≤ 1460 := by unfold dR3; omega
  have e : 0 ≤ dJ (dR3 n) ∧ dJ (dR3 n) ≤ 3 := by unfold dJ; split <;> omega
  have f : 0 ≤ dR4 n ∧ dR4 n ≤ 365 := by
    unfold dR4; generalize dR3 n = r at *; unfold dJ at *; split at e <;> rename_i hh <;> simp only [hh, if_true, if_false] <;> omega
  have g : 0 ≤ dMp n ∧ dMp n ≤ 11 := by unfold dMp; omega
  exact ⟨a, b, c, d, e, f, g, by unfold dY; omega⟩
set_option maxHeartbeats 2000000 in
theorem date_ok (n : Int) (h : dateOk n = true) : dayOk (dYear n) (dMon n) (dDay n) = true ∧ daysN (dYear n) (dMon n) (dDay n) = n := by
  obtain ⟨a, b, c, d, e, f, g, y0⟩ := date_bd n h
  have hh : -135140 ≤ n ∧ n ≤ 157053 := by simpa [dateOk] using h
  have hr1 : n + 719468 = 146097 * ((n + 719468) / 146097) + dR1 n := by unfold dR1; omega
  have hr2 : dR2 n = dR1 n - 36524 * dK (dR1 n) := rfl
  have hr3 : dR3 n = dR2 n - 1461 * (dR2 n / 1461) := rfl
  have hr4 : dR4 n = dR3 n - 365 * dJ (dR3 n) := rfl
  have hy : dY n = (n + 719468) / 146097 * 400 + 100 * dK (dR1 n) + 4 * (dR2 n / 1461) + dJ (dR3 n) := rfl
  have hp : dMp n = (5 * dR4 n + 2) / 153 := rfl
  have hd : dDay n = dR4 n - (153 * dMp n + 2) / 5 + 1 := rfl
  have hj : dR4 n = 365 → dJ (dR3 n) = 3 := by
    intro k; unfold dR4 at k; revert k; unfold dJ; split <;> intro k <;> omega
  have hk : dR2 n = 36524 → dK (dR1 n) = 3 := by
    intro k; unfold dR2 at k; revert k; unfold dK; split <;> intro k <;> omega
  have hmon : dMon n = if dMp n + 3 > 12 then dMp n + 3 - 12 else dMp n + 3 := rfl
  have hyear : dYear n = if dMp n + 3 > 12 then dY n + 1 else dY n := rfl
  generalize dMon n = mon at *
  generalize dYear n = yr at *
  generalize dDay n = dd at *
  generalize dMp n = mp at *
  generalize dY n = yy at *
  generalize dJ (dR3 n) = j at *
  generalize dK (dR1 n) = k at *
  generalize dR4 n = r4 at *
  generalize dR3 n = r3 at *
  generalize dR2 n = r2 at *
  generalize dR1 n = r1 at *
  generalize (n + 719468) / 146097 = cc at *
  generalize hq : r2 / 1461 = q at *
  have hq24 : 0 ≤ q ∧ q ≤ 24 := by omega
  have hdays : 365 * yy + yy / 4 - yy / 100 + yy / 400 + (153 * mp + 2) / 5 + dd - 719469 = n := by
    have e1 : yy / 4 = 100 * cc + 25 * k + q := by omega
    have e2 : yy / 100 = 4 * cc + k := by omega
    have e3 : yy / 400 = cc := by omega
    rw [e1, e2, e3]; omega
  have l := longN_cases yr
  have hyb : 1599 ≤ yy ∧ yy ≤ 2399 := by omega
  have hmp : mp = 0 ∨ mp = 1 ∨ mp = 2 ∨ mp = 3 ∨ mp = 4 ∨ mp = 5 ∨ mp = 6 ∨ mp = 7 ∨ mp = 8 ∨ mp = 9 ∨ mp = 10 ∨ mp = 11 := by omega
  have m1 : 1 ≤ mon ∧ mon ≤ 12 := by subst hmon; split <;> omega
  have hyr : 1 ≤ yr := by subst hyear; split <;> omega
  have hdn : daysN yr mon dd = n := by
    have dm := days_march yr mon dd hyr m1.1 m1.2
    by_cases h12 : mp + 3 > 12
    · rw [if_pos h12] at hmon hyear
      rw [← dm.2 (by omega), hmon, hyear, ← hdays]
      rw [show mp + 3 - 12 - 3 + 12 = mp from by omega, show yy + 1 - 1 = yy from by omega]
    · rw [if_neg h12] at hmon hyear
      rw [← dm.1 (by omega), hmon, hyear, ← hdays]
      rw [show mp + 3 - 3 = mp from by omega]
  refine ⟨?_, hdn⟩
  rw [dayOk_iff]
  have hlen : 1 ≤ dd ∧ dd ≤ lenM yr mon := by
    refine ⟨by omega, ?_⟩
    by_cases h2 : mon = 2
    · have hmp11 : mp = 11 := by
        rw [h2] at hmon; by_cases h12 : mp + 3 > 12
        · rw [if_pos h12] at hmon; omega
        · rw [if_neg h12] at hmon; omega
      subst hmp11
      have hyr' : yr = yy + 1 := by rw [hyear]; rfl
      have l1 : lenM yr mon = 28 + longN yr := by unfold lenM; rw [if_pos h2]
      rw [l1]
      by_cases h365 : r4 = 365
      · have hj3 := hj h365
        have hlong : longN yr = 1 := by
          rcases l with ⟨x, _⟩ | ⟨_, x⟩
          · exact x
          · exfalso; apply x
            rw [hyr', hy, hj3]
            by_cases h24 : q = 24
            · have : r2 = 36524 := by omega
              have := hk this
              right; omega
            · left; omega
        omega
      · have := long01 yr; omega
    · have l1 : lenM yr mon = 30 + (mon + mon / 8) % 2 := by unfold lenM; rw [if_neg h2]
      rw [l1]
      rcases hmp with z | z | z | z | z | z | z | z | z | z | z | z <;> subst z <;> simp at hmon <;> subst hmon <;> omega
  refine ⟨?_, ?_, m1.1, m1.2, hlen⟩
  · have a1 := (daysN_year yr mon dd m1.1 m1.2 hlen.1 hlen.2).2
    rw [hdn] at a1
    by_cases c9 : yr + 1 ≤ 1600
    · have := yd_le (yr + 1) 1600 c9; have : yd 1600 = -135140 := by decide
      omega
    · omega
  · have a1 := (daysN_year yr mon dd m1.1 m1.2 hlen.1 hlen.2).1
    rw [hdn] at a1
    by_cases c9 : 2400 ≤ yr
    · have := yd_le 2400 yr c9; have : yd 2400 = 157054 := by decide
      omega
    · omega
theorem days_in {y m d : Int} (h : dayOk y m d = true) : dateOk (daysN y m d) = true := by
  rw [dayOk_iff] at h
  obtain ⟨h1, h2, h3, h4, h5, h6⟩ := h
  have a := daysN_year y m d h3 h4 h5 h6
  have b := yd_le 1600 y h1
  have c := yd_le (y + 1) 2400 (by omega)
  have e : yd 1600 = -135140 := by decide
  have f : yd 2400 = 157054 := by decide
  simp only [dateOk, decide_eq_true_eq]; omega
theorem date_unique {y m d n : Int} (h : dayOk y m d = true) (e : daysN y m d = n) : y = dYear n ∧ m = dMon n ∧ d = dDay n := by
  have hn : dateOk n = true := e ▸ days_in h
  have k := date_ok n hn
  exact daysN_inj h k.1 (e.trans k.2.symm)
end Go.Proofs.Ytcoapllgpjjbcaa
