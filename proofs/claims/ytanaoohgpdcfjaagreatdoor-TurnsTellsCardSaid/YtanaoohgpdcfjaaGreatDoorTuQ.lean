/- The reference's rows of turns: their cells, and where a new one goes. -/
import Derived.Test.YtanaoohgpdcfjaaGreatDoorTuA
import Derived.Test.YtanaoohgpdcfjaaGreatDoorDayR2
import Derived.Deep.RegionLawGrows
import Derived.Deep.AppendLies
import Derived.Deep.Onto
import Derived.Sort.Walk0
import Derived.Maps.RangeWalk
namespace Go.Proofs.YtanaoohgpdcfjaaGreatDoor
open Go.RowKit
set_option linter.unusedVariables false
set_option linter.unusedSimpArgs false
abbrev RwT := Int × RuT
def rwC (x : RwT) : List Value := .int .i64 x.1 :: ruC x.2
abbrev rwA (T : Int) (r : RuT) : Array Value := #[.int .i64 T, .string r.name, .int .i64 r.f, .int .i64 r.t, .int .i64 r.m, .int .i64 r.k, .int .i64 r.wd, .int .i64 r.n, .int .i64 r.a, .int .i64 r.b, .int .i64 r.sv, .string r.letter]
theorem rw_len12 (l : List RwT) : ∀ xs ∈ l.map rwC, xs.length = 12 := by intro xs hx; obtain ⟨t, _, rfl⟩ := List.mem_map.1 hx; rfl
theorem rw_flen (l : List RwT) : (l.map rwC).flatten.length = l.length * 12 := by rw [flat_len (size := 12) _ (rw_len12 l), List.length_map]
theorem rw_cells {w : World} {base G cap : Nat} {L : List RwT} (h : w.ownsRow base 84 12 (.slice (some ⟨G, 0, none⟩) L.length cap) L.length (L.map rwC).flatten) {k : Nat} (hk : k < L.length) (j : Nat) (hj : j < 12) : w.cell? ⟨G, k * 12 + j, none⟩ = (rwC L[k])[j]? := by
  rw [World.ownsRow.cellAt h _ (by omega), flat_get (size := 12) _ k j (rw_len12 L) (by simpa using hk) hj]
  simp [List.getD, hk]
theorem rw_take (L : List RwT) (k : Nat) : ((L.take k).map rwC).flatten = (L.map rwC).flatten.take (k * 12) := by
  induction L generalizing k with
  | nil => simp
  | cons x l ih =>
    cases k with
    | zero => simp
    | succ k =>
      rw [List.take_succ_cons, List.map_cons, List.map_cons, List.flatten_cons, List.flatten_cons, ih]
      have e : (k + 1) * 12 = (rwC x).length + k * 12 := by rw [rw_len12 [x] (rwC x) (by simp)]; omega
      rw [e, List.take_length_add_append]
theorem rw_drop (L : List RwT) (k : Nat) : ((L.drop k).map rwC).flatten = (L.map rwC).flatten.drop (k * 12) := by
  induction L generalizing k with
  | nil => simp
  | cons x l ih =>
    cases k with
    | zero => simp
    | succ k =>
      rw [List.drop_succ_cons, List.map_cons, List.flatten_cons, ih]
      have e : (k + 1) * 12 = (rwC x).length + k * 12 := by rw [rw_len12 [x] (rwC x) (by simp)]; omega
      rw [e, List.drop_length_add_append]
theorem rw_own_from {w : World} {base G n cap k : Nat} {xs : List Value} (hO : w.ownsRow base 84 12 (.slice (some ⟨G, 0, none⟩) n cap) n xs) : ∀ j u, (xs.drop k)[j]? = some u → w.cell? ((⟨G, k, none⟩ : Addr).add j) = some u := by
  intro j u hu
  rw [List.getElem?_drop] at hu
  have h := hO.cells rfl (k + j) u hu
  have e : (⟨G, 0, none⟩ : Addr).add (k + j) = (⟨G, k, none⟩ : Addr).add j := by
    unfold Addr.add
    by_cases hj : j = 0
    · subst hj
      by_cases hk : k = 0
      · subst hk; rfl
      · rw [if_neg (by omega), if_pos rfl]; simp
    · rw [if_neg (by omega), if_neg hj]; simp
  rw [e] at h
  exact h
theorem rw_own_take {w : World} {base G n cap k : Nat} {xs : List Value} (hO : w.ownsRow base 84 12 (.slice (some ⟨G, 0, none⟩) n cap) n xs) : ∀ j u, (xs.take k)[j]? = some u → w.cell? ((⟨G, 0, none⟩ : Addr).add j) = some u := by
  intro j u hu
  refine hO.cells rfl j u ?_
  rw [List.getElem?_take] at hu
  split at hu
  · exact hu
  · cases hu
theorem rw_own_heap {w w2 : World} {base G n cap : Nat} {xs : List Value} (hO : w.ownsRow base 84 12 (.slice (some ⟨G, 0, none⟩) n cap) n xs) (h : w2.heap[G]? = w.heap[G]?) : w2.ownsRow base 84 12 (.slice (some ⟨G, 0, none⟩) n cap) n xs :=
  ⟨hO.1, hO.2.imp id (fun ⟨g, c, cur, a1, a2, a3, a4⟩ => ⟨g, c, cur, a1, a2, by cases a1; exact h.trans a3, a4⟩)⟩
theorem rw_one {l : List RwT} : ∀ u ∈ (l.map rwC).flatten, u.oneCell' = true := by
  intro u hu
  obtain ⟨xs, hx, hu⟩ := List.mem_flatten.1 hu
  obtain ⟨x, _, rfl⟩ := List.mem_map.1 hx
  simp [rwC, ruC] at hu
  rcases hu with rfl | rfl | rfl | rfl | rfl | rfl | rfl | rfl | rfl | rfl | rfl | rfl <;> rfl
theorem rw_one1 {x : RwT} : ∀ u ∈ rwC x, u.oneCell' = true := by
  intro u hu
  exact rw_one (l := [x]) u (by simpa using hu)
/-- the reference's rows -/
def RwRow (w : World) (base : Nat) (v : Value) (L : List RwT) : Prop :=
  (L = [] ∧ v = .slice none 0 0) ∨ ∃ G cap, v = .slice (some ⟨G, 0, none⟩) L.length cap ∧ w.ownsRow base 84 12 (.slice (some ⟨G, 0, none⟩) L.length cap) L.length (L.map rwC).flatten
theorem RwRow.step {w w' : World} {base : Nat} {v : Value} {L : List RwT} (h : RwRow w base v L) (hb : Below w.heap.size w w') : RwRow w' base v L :=
  h.imp id (fun ⟨G, cap, a, b⟩ => ⟨G, cap, a, own_step b hb⟩)
theorem info_Row : (Tryz.prog.info? 84).map (fun i => (i.zero, i.size, i.bytes)) = some (some (.agg #[.int .i64 0, .string ⟨#[]⟩, .int .i64 0, .int .i64 0, .int .i64 0, .int .i64 0, .int .i64 0, .int .i64 0, .int .i64 0, .int .i64 0, .int .i64 0, .string ⟨#[]⟩]), 12, 112) := by kernel_rfl
theorem rw_done {w : World} {B g2 cap2 q : Nat} {L : List RwT} {x : RwT} (hq : q ≤ L.length) (h : w.ownsRow B 84 12 (.slice (some ⟨g2, 0, none⟩) (q + (1 + (L.length - q))) cap2) (q + (1 + (L.length - q))) ((L.map rwC).flatten.take (q * 12) ++ (rwC x ++ (L.map rwC).flatten.drop (q * 12)))) :
    RwRow w B (.slice (some ⟨g2, 0, none⟩) (q + (1 + (L.length - q))) cap2) (L.take q ++ x :: L.drop q) := by
  have e1 : (L.take q ++ x :: L.drop q).length = q + (1 + (L.length - q)) := by simp; omega
  have e2 : ((L.take q ++ x :: L.drop q).map rwC).flatten = (L.map rwC).flatten.take (q * 12) ++ (rwC x ++ (L.map rwC).flatten.drop (q * 12)) := by rw [← rw_take, ← rw_drop]; simp
  refine Or.inr ⟨g2, cap2, by rw [e1], ?_⟩
  rw [e1, e2]; exact h
theorem rw_done1 {w : World} {B g2 cap2 : Nat} {L : List RwT} {x : RwT} (h : w.ownsRow B 84 12 (.slice (some ⟨g2, 0, none⟩) (L.length + 1) cap2) (L.length + 1) ((L.map rwC).flatten ++ rwC x)) :
    RwRow w B (.slice (some ⟨g2, 0, none⟩) (L.length + 1) cap2) (L.take L.length ++ x :: L.drop L.length) := by
  rw [List.take_length, List.drop_length]
  have e1 : (L ++ [x]).length = L.length + 1 := by simp
  have e2 : ((L ++ [x]).map rwC).flatten = (L.map rwC).flatten ++ rwC x := by simp
  refine Or.inr ⟨g2, cap2, by rw [e1], ?_⟩
  rw [e1, e2]; exact h
theorem rw_sl {w : World} {B : Nat} {v : Value} {L : List RwT} (h : RwRow w B v L) : ∃ A cap, v = .slice A L.length cap ∧ L.length ≤ cap ∧ cap ≤ maxLen ∧ SlAt w w.heap.size 12 A (L.map rwC) := by
  rcases h with ⟨rfl, rfl⟩ | ⟨G, cap, rfl, h⟩
  · exact ⟨none, 0, rfl, by simp, by unfold maxLen; omega, SlAt.none_ _ _ _ _⟩
  · obtain ⟨A, c, e, h1, h2, h3⟩ := own_at (xss := L.map rwC) (by simpa using h) (rw_len12 L)
    rw [List.length_map] at e h1
    exact ⟨A, c, e, h1, h2, h3⟩
theorem rw_at {w : World} {B : Nat} {A : Option Addr} {L : List RwT} (h : SlAt w B 12 A (L.map rwC)) {k : Nat} (hk : k < L.length) :
    ∃ b o, A = some ⟨b, o, none⟩ ∧ b < B ∧ w.cell? ⟨b, o + k * 12, none⟩ = some (.int .i64 L[k].1) ∧ w.cell? ⟨b, o + k * 12 + 1, none⟩ = some (.string L[k].2.name) ∧ w.cell? ⟨b, o + k * 12 + 2, none⟩ = some (.int .i64 L[k].2.f) ∧ w.cell? ⟨b, o + k * 12 + 3, none⟩ = some (.int .i64 L[k].2.t) ∧ w.cell? ⟨b, o + k * 12 + 4, none⟩ = some (.int .i64 L[k].2.m) ∧ w.cell? ⟨b, o + k * 12 + 5, none⟩ = some (.int .i64 L[k].2.k) ∧ w.cell? ⟨b, o + k * 12 + 6, none⟩ = some (.int .i64 L[k].2.wd) ∧ w.cell? ⟨b, o + k * 12 + 7, none⟩ = some (.int .i64 L[k].2.n) ∧ w.cell? ⟨b, o + k * 12 + 8, none⟩ = some (.int .i64 L[k].2.a) ∧ w.cell? ⟨b, o + k * 12 + 9, none⟩ = some (.int .i64 L[k].2.b) ∧ w.cell? ⟨b, o + k * 12 + 10, none⟩ = some (.int .i64 L[k].2.sv) ∧ w.cell? ⟨b, o + k * 12 + 11, none⟩ = some (.string L[k].2.letter) := by
  obtain ⟨b, o, h1, h2, h3⟩ := h (by simp; omega)
  have e : (L.map rwC).getD k [] = rwC L[k] := by simp [List.getD, hk]
  have h4 := h3 k (by simpa using hk)
  rw [e] at h4
  exact ⟨b, o, h1, h2, h4 0 (by omega), h4 1 (by omega), h4 2 (by omega), h4 3 (by omega), h4 4 (by omega), h4 5 (by omega), h4 6 (by omega), h4 7 (by omega), h4 8 (by omega), h4 9 (by omega), h4 10 (by omega), h4 11 (by omega)⟩
def nomJ (r : RuT) (j : Nat) : List RwT := (List.range j).map fun (i : Nat) => (ruT r (r.f + (i : Int)), r)
theorem nomJ_succ (r : RuT) (j : Nat) : nomJ r (j + 1) = nomJ r j ++ [(ruT r (r.f + (j : Int)), r)] := by simp [nomJ, List.range_succ]
theorem nomJ_all (r : RuT) : nomJ r (ruN r) = nomR r := rfl
theorem noms_take {F : List RuT} {k : Nat} (h : k < F.length) : noms (F.take (k + 1)) = noms (F.take k) ++ nomR F[k] := by rw [List.take_succ_eq_append_getElem h, noms_snoc]
theorem yrsN_take {F : List RuT} {k : Nat} (h : k < F.length) : yrsN (F.take (k + 1)) = yrsN (F.take k) + ruN F[k] := by rw [List.take_succ_eq_append_getElem h, yrsN_snoc]
theorem yrsN_split (F : List RuT) (k : Nat) : yrsN F = yrsN (F.take k) + yrsN (F.drop k) := by
  have h : yrsN (F.take k ++ F.drop k) = yrsN (F.take k) + yrsN (F.drop k) := by unfold yrsN; rw [List.map_append, List.sum_append]
  rwa [List.take_append_drop] at h
theorem rws_take {l : List RwT} (h : l.Pairwise (fun a b => a.1 ≤ b.1)) {k : Nat} (hk : k < l.length) {x : Int} (hx : l[k].1 ≤ x) : ∀ p ∈ l.take (k + 1), p.1 ≤ x := by
  intro p hp
  obtain ⟨i, hi, rfl⟩ := List.getElem_of_mem hp
  rw [List.length_take] at hi
  rw [List.getElem_take]
  by_cases he : i = k
  · subst he; exact hx
  · have := List.pairwise_iff_getElem.1 h i k (by omega) hk (by omega)
    omega
/-- where a new row goes -/
theorem rw_place {Y : List RwT} {x : RwT} {q : Nat} (hq : q ≤ (ssort Prod.fst Y).length) (h1 : q = 0 ∨ ∃ h : q - 1 < (ssort Prod.fst Y).length, (ssort Prod.fst Y)[q - 1].1 ≤ x.1) (h2 : ∀ t ∈ (ssort Prod.fst Y).drop q, x.1 < t.1) :
    ssort Prod.fst (Y ++ [x]) = (ssort Prod.fst Y).take q ++ x :: (ssort Prod.fst Y).drop q := by
  rw [ssort_snoc]
  have h := smerge_in Prod.fst ((ssort Prod.fst Y).take q) ((ssort Prod.fst Y).drop q) x (by
    rcases h1 with rfl | ⟨h, h1⟩
    · simp
    · cases q with
      | zero => simp
      | succ q => exact rws_take (ssort_sorted Prod.fst _ Y rfl) h h1) h2
  rw [List.take_append_drop] at h
  exact h
end Go.Proofs.YtanaoohgpdcfjaaGreatDoor
