/- Bytes read as a table, in plain Lean. Nothing of the program here. -/
import Derived.Test.YtcoapllgpjjbcaaPkP
import Derived.Laws.BytesArg
namespace Go.Proofs.Ytcoapllgpjjbcaa
set_option linter.unusedVariables false
def Byt (l : List Int) : Prop := ∀ x ∈ l, 0 ≤ x ∧ x ≤ 255
theorem Byt.take {l : List Int} (h : Byt l) (n : Nat) : Byt (l.take n) := fun x hx => h x (List.mem_of_mem_take hx)
theorem Byt.drop {l : List Int} (h : Byt l) (n : Nat) : Byt (l.drop n) := fun x hx => h x (List.mem_of_mem_drop hx)
theorem Byt.zeros (n : Nat) : Byt (List.replicate n 0) := fun x hx => by obtain ⟨_, rfl⟩ := List.mem_replicate.1 hx; omega
theorem Byt.nil : Byt [] := fun x hx => by simp at hx
theorem Byt.getD {l : List Int} (h : Byt l) (i : Nat) : 0 ≤ l.getD i 0 ∧ l.getD i 0 ≤ 255 := by
  by_cases hi : i < l.length
  · rw [show l.getD i 0 = l[i] by simp [List.getD, hi]]; exact h _ (List.getElem_mem hi)
  · rw [show l.getD i 0 = 0 by simp [List.getD, hi]]; omega
/-- a number of bytes, the greatest first -/
def frB (l : List Int) : Int := l.foldl (fun n c => n * 256 + c) 0
theorem frB_succ {l : List Int} {k : Nat} (h : k < l.length) : frB (l.take (k + 1)) = frB (l.take k) * 256 + l[k] := by
  unfold frB; rw [List.take_succ_eq_append_getElem h, List.foldl_append]; rfl
theorem frB_lt {l : List Int} (h : Byt l) : ∀ {k : Nat}, k ≤ l.length → 0 ≤ frB (l.take k) ∧ frB (l.take k) < 256 ^ k
  | 0, _ => by simp [frB]
  | k + 1, hk => by
    have h1 := frB_lt h (show k ≤ l.length by omega)
    have h2 := h _ (List.getElem_mem (show k < l.length by omega))
    rw [frB_succ (by omega), Int.pow_succ]; omega
theorem frB_all {l : List Int} (h : Byt l) : 0 ≤ frB l ∧ frB l < 256 ^ l.length := by have := frB_lt h (Nat.le_refl l.length); rwa [List.take_length] at this
theorem frB_1 (x : Int) : frB [x] = x := by simp [frB]
/-- a reader's state: what is left, and whether there was too little -/
abbrev RS := List Int × Bool
def rdB (s : RS) (n : Nat) : List Int × RS := if n ≤ s.1.length then (s.1.take n, (s.1.drop n, s.2)) else (List.replicate n 0, ([], true))
def rdM (s : RS) (m : Nat) : Int × RS := (frB (rdB s m).1, (rdB s m).2)
def rdTy (s : RS) : Ty × RS :=
  let a := rdM s 4; let b := rdM a.2 1; let c := rdM b.2 1; let d := rdB c.2 c.1.toNat
  ((a.1 - 2147483648, decide (b.1 = 1), Go.strOfNums d.1), d.2)
def rdCh (s : RS) : Ch × RS := let a := rdM s 8; let b := rdM a.2 1; ((a.1 - 9223372036854775808, b.1), b.2)
def runT : Nat → RS → List Ty × RS
  | 0, s => ([], s)
  | k + 1, s => ((runT k s).1 ++ [(rdTy (runT k s).2).1], (rdTy (runT k s).2).2)
def runC : Nat → RS → List Ch × RS
  | 0, s => ([], s)
  | k + 1, s => if (runC k s).2.2 = true then runC k s else ((runC k s).1 ++ [(rdCh (runC k s).2).1], (rdCh (runC k s).2).2)
theorem rdB_len (s : RS) (n : Nat) : (rdB s n).1.length = n := by unfold rdB; split <;> simp <;> omega
theorem rdB_byt {s : RS} (h : Byt s.1) (n : Nat) : Byt (rdB s n).1 ∧ Byt (rdB s n).2.1 := by
  unfold rdB; split
  · exact ⟨h.take n, h.drop n⟩
  · exact ⟨Byt.zeros n, Byt.nil⟩
theorem rdB_short {s : RS} (h : s.2 = true) (n : Nat) : (rdB s n).2.2 = true := by unfold rdB; split <;> simp [h]
theorem rdM_bd {s : RS} (h : Byt s.1) (m : Nat) : 0 ≤ (rdM s m).1 ∧ (rdM s m).1 < 256 ^ m := by
  have := frB_all (rdB_byt h m).1
  rw [rdB_len] at this
  exact this
theorem rdM_byt {s : RS} (h : Byt s.1) (m : Nat) : Byt (rdM s m).2.1 := (rdB_byt h m).2
theorem rdTy_byt {s : RS} (h : Byt s.1) : Byt (rdTy s).2.1 := (rdB_byt (rdM_byt (rdM_byt (rdM_byt h _) _) _) _).2
theorem rdTy_short {s : RS} (h : s.2 = true) : (rdTy s).2.2 = true := rdB_short (rdB_short (rdB_short (rdB_short h _) _) _) _
theorem rdCh_byt {s : RS} (h : Byt s.1) : Byt (rdCh s).2.1 := rdM_byt (rdM_byt h _) _
theorem runT_len (s : RS) : ∀ k, (runT k s).1.length = k
  | 0 => rfl
  | k + 1 => by rw [runT, List.length_append, runT_len s k]; rfl
theorem runT_byt {s : RS} (h : Byt s.1) : ∀ k, Byt (runT k s).2.1
  | 0 => h
  | k + 1 => rdTy_byt (runT_byt h k)
theorem runC_len (s : RS) : ∀ k, (runC k s).1.length ≤ k
  | 0 => Nat.le_refl _
  | k + 1 => by
    have := runC_len s k
    rw [runC]; split
    · omega
    · rw [List.length_append]; simp; omega
theorem runC_byt {s : RS} (h : Byt s.1) : ∀ k, Byt (runC k s).2.1
  | 0 => h
  | k + 1 => by
    have := runC_byt h k
    rw [runC]; split
    · exact this
    · exact rdCh_byt this
theorem runT_short {s : RS} {k : Nat} (h : (runT k s).2.2 = true) : ∀ {n : Nat}, k ≤ n → (runT n s).2.2 = true
  | n, hn => by
    obtain ⟨j, rfl⟩ : ∃ j, n = k + j := ⟨n - k, by omega⟩
    clear hn
    induction j with
    | zero => exact h
    | succ j ih => exact rdTy_short ih
theorem runC_stop {s : RS} {k : Nat} (h : (runC k s).2.2 = true) : ∀ {n : Nat}, k ≤ n → runC n s = runC k s
  | n, hn => by
    obtain ⟨j, rfl⟩ : ∃ j, n = k + j := ⟨n - k, by omega⟩
    clear hn
    induction j with
    | zero => rfl
    | succ j ih => rw [← Nat.add_assoc, runC, if_pos (by rw [ih]; exact h), ih]
theorem runC_short0 {s : RS} (h : s.2 = true) (n : Nat) : (runC n s).2.2 = true := by
  have := runC_stop (s := s) (k := 0) h (Nat.zero_le n)
  rw [this]; exact h
/-- one byte of what is left -/
theorem rdM_1 {l : List Int} {b : Bool} (h : 1 ≤ l.length) : rdM (l, b) 1 = (l.getD 0 0, (l.drop 1, b)) := by
  cases l with
  | nil => simp at h
  | cons x l => simp [rdM, rdB, frB]
def short1 (bs : List Int) (at' : Nat) : Prop := bs.length < at' + 6 ∨ (bs.length : Int) < at' + 6 + bs.getD (at' + 5) 0
theorem getD_drop {l : List Int} (a i : Nat) : (l.drop a).getD i 0 = l.getD (a + i) 0 := by simp [List.getD]
theorem rdB_ok {l : List Int} {b : Bool} {n : Nat} (h : n ≤ l.length) : rdB (l, b) n = (l.take n, (l.drop n, b)) := by simp [rdB, h]
theorem rdB_no {l : List Int} {b : Bool} {n : Nat} (h : l.length < n) : rdB (l, b) n = (List.replicate n 0, ([], true)) := by simp [rdB]; omega
theorem rdTy_bad {bs : List Int} {at' : Nat} (hb : Byt bs) (ha : at' ≤ bs.length) (h : short1 bs at') : (rdTy (bs.drop at', false)).2.2 = true := by
  have hl : (bs.drop at').length = bs.length - at' := List.length_drop
  by_cases h4 : bs.length < at' + 4
  · exact rdB_short (rdB_short (rdB_short (by simp only [rdM]; rw [rdB_no (by omega)]) _) _) _
  · have e4 : (rdM (bs.drop at', false) 4).2 = (bs.drop (at' + 4), false) := by simp only [rdM]; rw [rdB_ok (by omega), List.drop_drop]
    have l4 : (bs.drop (at' + 4)).length = bs.length - (at' + 4) := List.length_drop
    by_cases h5 : bs.length < at' + 5
    · refine rdB_short (rdB_short ?_ _) _
      simp only [rdM] at e4 ⊢
      rw [e4, rdB_no (by omega)]
    · have e5 : (rdM (bs.drop (at' + 4), false) 1).2 = (bs.drop (at' + 5), false) := by simp only [rdM]; rw [rdB_ok (by omega), List.drop_drop]
      have l5 : (bs.drop (at' + 5)).length = bs.length - (at' + 5) := List.length_drop
      by_cases h6 : bs.length < at' + 6
      · refine rdB_short ?_ _
        simp only [rdM] at e4 e5 ⊢
        rw [e4, e5, rdB_no (by omega)]
      · have e6 : rdM (bs.drop (at' + 5), false) 1 = (bs.getD (at' + 5) 0, (bs.drop (at' + 6), false)) := by rw [rdM_1 (by omega), getD_drop, List.drop_drop]
        have l6 : (bs.drop (at' + 6)).length = bs.length - (at' + 6) := List.length_drop
        have hg := hb.getD (at' + 5)
        have h7 : (bs.length : Int) < at' + 6 + bs.getD (at' + 5) 0 := by rcases h with h | h; · omega
                                                                          · exact h
        simp only [rdTy, e4, e5, e6]
        rw [rdB_no (by omega)]
theorem rdTy_ok {bs : List Int} {at' n : Nat} (h6 : at' + 6 + n ≤ bs.length) (hn : bs.getD (at' + 5) 0 = n) :
    rdTy (bs.drop at', false) = ((frB ((bs.drop at').take 4) - 2147483648, decide (bs.getD (at' + 4) 0 = 1), Go.strOfNums ((bs.drop (at' + 6)).take n)), (bs.drop (at' + 6 + n), false)) := by
  have l0 : (bs.drop at').length = bs.length - at' := List.length_drop
  have l4 : (bs.drop (at' + 4)).length = bs.length - (at' + 4) := List.length_drop
  have l5 : (bs.drop (at' + 5)).length = bs.length - (at' + 5) := List.length_drop
  have l6 : (bs.drop (at' + 6)).length = bs.length - (at' + 6) := List.length_drop
  have e4 : rdM (bs.drop at', false) 4 = (frB ((bs.drop at').take 4), (bs.drop (at' + 4), false)) := by simp only [rdM]; rw [rdB_ok (by omega), List.drop_drop]
  have e5 : rdM (bs.drop (at' + 4), false) 1 = (bs.getD (at' + 4) 0, (bs.drop (at' + 5), false)) := by rw [rdM_1 (by omega), getD_drop, List.drop_drop]
  have e6 : rdM (bs.drop (at' + 5), false) 1 = (bs.getD (at' + 5) 0, (bs.drop (at' + 6), false)) := by rw [rdM_1 (by omega), getD_drop, List.drop_drop]
  simp only [rdTy, e4, e5, e6, hn]
  rw [Int.toNat_natCast, rdB_ok (by omega), List.drop_drop]
theorem rdCh_bad {bs : List Int} {at' : Nat} (ha : at' ≤ bs.length) (h : bs.length < at' + 9) : (rdCh (bs.drop at', false)).2.2 = true := by
  have hl : (bs.drop at').length = bs.length - at' := List.length_drop
  by_cases h8 : bs.length < at' + 8
  · exact rdB_short (by simp only [rdM]; rw [rdB_no (by omega)]) _
  · have e8 : (rdM (bs.drop at', false) 8).2 = (bs.drop (at' + 8), false) := by simp only [rdM]; rw [rdB_ok (by omega), List.drop_drop]
    have l8 : (bs.drop (at' + 8)).length = bs.length - (at' + 8) := List.length_drop
    simp only [rdCh, e8]
    simp only [rdM]
    rw [rdB_no (by omega)]
theorem rdCh_ok {bs : List Int} {at' : Nat} (h : at' + 9 ≤ bs.length) :
    rdCh (bs.drop at', false) = ((frB ((bs.drop at').take 8) - 9223372036854775808, bs.getD (at' + 8) 0), (bs.drop (at' + 9), false)) := by
  have l0 : (bs.drop at').length = bs.length - at' := List.length_drop
  have l8 : (bs.drop (at' + 8)).length = bs.length - (at' + 8) := List.length_drop
  have e8 : rdM (bs.drop at', false) 8 = (frB ((bs.drop at').take 8), (bs.drop (at' + 8), false)) := by simp only [rdM]; rw [rdB_ok (by omega), List.drop_drop]
  have e9 : rdM (bs.drop (at' + 8), false) 1 = (bs.getD (at' + 8) 0, (bs.drop (at' + 9), false)) := by rw [rdM_1 (by omega), getD_drop, List.drop_drop]
  simp only [rdCh, e8, e9]
def paT (bs : List Int) : List Ty × RS := runT (bs.getD 4 0).toNat (bs.drop 8, false)
def paC (bs : List Int) : List Ch × RS := runC (frB ((bs.drop 6).take 2)).toNat (paT bs).2
/-- the error of bytes -/
def paE (bs : List Int) : Int :=
  if 20000 < bs.length then 2 else if bs.length < 8 then 4 else if (paC bs).2.2 = true then 4
  else if tabE (paT bs).1 (bs.getD 5 0) (paC bs).1 = 0 ∧ (Go.strOfNums (pkL (paT bs).1 (bs.getD 5 0) (paC bs).1)).toList = (Go.strOfNums bs).toList then 0 else 5
end Go.Proofs.Ytcoapllgpjjbcaa
