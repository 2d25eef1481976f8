/- The reference's rows of turns: their cells, and where a new one goes. Walk of the reference's Turns. -/
import Derived.Test.YtanaoohgpdcfjaaGreatDoorTuA
import Derived.Test.YtanaoohgpdcfjaaGreatDoorDayR2
import Derived.Deep.RegionLawGrows
import Derived.Deep.AppendLies
import Derived.Deep.Onto
import Derived.Sort.Walk0
import Derived.Maps.RangeWalk
import Derived.Deep.CutRange
namespace Go.Proofs.YtanaoohgpdcfjaaGreatDoor
open Go.RowKit
set_option linter.unusedVariables false
set_option linter.unusedSimpArgs false
abbrev RwT := Int × RuT
def rwC (x : RwT) : List Value := .int .i64 x.1 :: ruC x.2
abbrev rwA (T : Int) (r : RuT) : Array Value := #[.int .i64 T, .string r.name, .int .i64 r.f, .int .i64 r.t, .int .i64 r.m, .int .i64 r.k, .int .i64 r.wd, .int .i64 r.n, .int .i64 r.a, .int .i64 r.b, .int .i64 r.sv, .string r.letter]
theorem rw_len12 (l : List RwT) : ∀ xs ∈ l.map rwC, xs.length = 12 := by intro xs hx; obtain ⟨t, _, rfl⟩ := List.mem_map.1 hx; rfl
theorem rw_flen (l : List RwT) : (l.map rwC).flatten.length = l.length * 12 := by rw [flat_len (size := 12) _ (rw_len12 l), List.length_map]
theorem rw_cells {w : World} {base G cap : Nat} {L : List RwT} (h : w.ownsRow base 84 12 (.slice (some ⟨G, 0, none⟩) L.length cap) L.length (L.map rwC).flatten) {k : Nat} (hk : k < L.length) (j : Nat) (hj : j < 12) : w.cell? ⟨G, k * 12 + j, none⟩ = (rwC L[k])[j]? := by
  rw [World.ownsRow.cellAt h _ (by omega), flat_get (size := 12) _ k j (rw_len12 L) (by simpa using hk) hj]
  simp [List.getD, hk]
theorem rw_take (L : List RwT) (k : Nat) : ((L.take k).map rwC).flatten = (L.map rwC).flatten.take (k * 12) := by
  induction L generalizing k with
  | nil => simp
  | cons x l ih =>
    cases k with
    | zero => simp
    | succ k =>
      rw [List.take_succ_cons, List.map_cons, List.map_cons, List.flatten_cons, List.flatten_cons, ih]
      have e : (k + 1) * 12 = (rwC x).length + k * 12 := by rw [rw_len12 [x] (rwC x) (by simp)]; omega
      rw [e, List.take_length_add_append]
theorem rw_drop (L : List RwT) (k : Nat) : ((L.drop k).map rwC).flatten = (L.map rwC).flatten.drop (k * 12) := by
  induction L generalizing k with
  | nil => simp
  | cons x l ih =>
    cases k with
    | zero => simp
    | succ k =>
      rw [List.drop_succ_cons, List.map_cons, List.flatten_cons, ih]
      have e : (k + 1) * 12 = (rwC x).length + k * 12 := by rw [rw_len12 [x] (rwC x) (by simp)]; omega
      rw [e, List.drop_length_add_append]
theorem rw_own_from {w : World} {base G n cap k : Nat} {xs : List Value} (hO : w.ownsRow base 84 12 (.slice (some ⟨G, 0, none⟩) n cap) n xs) : ∀ j u, (xs.drop k)[j]? = some u → w.cell? ((⟨G, k, none⟩ : Addr).add j) = some u := by
  intro j u hu
  rw [List.getElem?_drop] at hu
  have h := hO.cells rfl (k + j) u hu
  have e : (⟨G, 0, none⟩ : Addr).add (k + j) = (⟨G, k, none⟩ : Addr).add j := by
    unfold Addr.add
    by_cases hj : j = 0
    · subst hj
      by_cases hk : k = 0
      · subst hk; rfl
      · rw [if_neg (by omega), if_pos rfl]; simp
    · rw [if_neg (by omega), if_neg hj]; simp
  rw [e] at h
  exact h
theorem rw_own_take {w : World} {base G n cap k : Nat} {xs : List Value} (hO : w.ownsRow base 84 12 (.slice (some ⟨G, 0, none⟩) n cap) n xs) : ∀ j u, (xs.take k)[j]? = some u → w.cell? ((⟨G, 0, none⟩ : Addr).add j) = some u := by
  intro j u hu
  refine hO.cells rfl j u ?_
  rw [List.getElem?_take] at hu
  split at hu
  · exact hu
  · cases hu
theorem rw_own_heap {w w2 : World} {base G n cap : Nat} {xs : List Value} (hO : w.ownsRow base 84 12 (.slice (some ⟨G, 0, none⟩) n cap) n xs) (h : w2.heap[G]? = w.heap[G]?) : w2.ownsRow base 84 12 (.slice (some ⟨G, 0, none⟩) n cap) n xs :=
  ⟨hO.1, hO.2.imp id (fun ⟨g, c, cur, a1, a2, a3, a4⟩ => ⟨g, c, cur, a1, a2, by cases a1; exact h.trans a3, a4⟩)⟩
theorem rw_one {l : List RwT} : ∀ u ∈ (l.map rwC).flatten, u.oneCell' = true := by
  intro u hu
  obtain ⟨xs, hx, hu⟩ := List.mem_flatten.1 hu
  obtain ⟨x, _, rfl⟩ := List.mem_map.1 hx
  simp [rwC, ruC] at hu
  rcases hu with rfl | rfl | rfl | rfl | rfl | rfl | rfl | rfl | rfl | rfl | rfl | rfl <;> rfl
theorem rw_one1 {x : RwT} : ∀ u ∈ rwC x, u.oneCell' = true := by
  intro u hu
  exact rw_one (l := [x]) u (by simpa using hu)
/-- the reference's rows -/
def RwRow (w : World) (base : Nat) (v : Value) (L : List RwT) : Prop :=
  (L = [] ∧ v = .slice none 0 0) ∨ ∃ G cap, v = .slice (some ⟨G, 0, none⟩) L.length cap ∧ w.ownsRow base 84 12 (.slice (some ⟨G, 0, none⟩) L.length cap) L.length (L.map rwC).flatten
theorem RwRow.step {w w' : World} {base : Nat} {v : Value} {L : List RwT} (h : RwRow w base v L) (hb : Below w.heap.size w w') : RwRow w' base v L :=
  h.imp id (fun ⟨G, cap, a, b⟩ => ⟨G, cap, a, own_step b hb⟩)
theorem info_Row : (Tryz.prog.info? 84).map (fun i => (i.zero, i.size, i.bytes)) = some (some (.agg #[.int .i64 0, .string ⟨#[]⟩, .int .i64 0, .int .i64 0, .int .i64 0, .int .i64 0, .int .i64 0, .int .i64 0, .int .i64 0, .int .i64 0, .int .i64 0, .string ⟨#[]⟩]), 12, 112) := by kernel_rfl
theorem rw_done {w : World} {B g2 cap2 q : Nat} {L : List RwT} {x : RwT} (hq : q ≤ L.length) (h : w.ownsRow B 84 12 (.slice (some ⟨g2, 0, none⟩) (q + (1 + (L.length - q))) cap2) (q + (1 + (L.length - q))) ((L.map rwC).flatten.take (q * 12) ++ (rwC x ++ (L.map rwC).flatten.drop (q * 12)))) :
    RwRow w B (.slice (some ⟨g2, 0, none⟩) (q + (1 + (L.length - q))) cap2) (L.take q ++ x :: L.drop q) := by
  have e1 : (L.take q ++ x :: L.drop q).length = q + (1 + (L.length - q)) := by simp; omega
  have e2 : ((L.take q ++ x :: L.drop q).map rwC).flatten = (L.map rwC).flatten.take (q * 12) ++ (rwC x ++ (L.map rwC).flatten.drop (q * 12)) := by rw [← rw_take, ← rw_drop]; simp
  refine Or.inr ⟨g2, cap2, by rw [e1], ?_⟩
  rw [e1, e2]; exact h
theorem rw_done1 {w : World} {B g2 cap2 : Nat} {L : List RwT} {x : RwT} (h : w.ownsRow B 84 12 (.slice (some ⟨g2, 0, none⟩) (L.length + 1) cap2) (L.length + 1) ((L.map rwC).flatten ++ rwC x)) :
    RwRow w B (.slice (some ⟨g2, 0, none⟩) (L.length + 1) cap2) (L.take L.length ++ x :: L.drop L.length) := by
  rw [List.take_length, List.drop_length]
  have e1 : (L ++ [x]).length = L.length + 1 := by simp
  have e2 : ((L ++ [x]).map rwC).flatten = (L.map rwC).flatten ++ rwC x := by simp
  refine Or.inr ⟨g2, cap2, by rw [e1], ?_⟩
  rw [e1, e2]; exact h
theorem rw_sl {w : World} {B : Nat} {v : Value} {L : List RwT} (h : RwRow w B v L) : ∃ A cap, v = .slice A L.length cap ∧ L.length ≤ cap ∧ cap ≤ maxLen ∧ SlAt w w.heap.size 12 A (L.map rwC) := by
  rcases h with ⟨rfl, rfl⟩ | ⟨G, cap, rfl, h⟩
  · exact ⟨none, 0, rfl, by simp, by unfold maxLen; omega, SlAt.none_ _ _ _ _⟩
  · obtain ⟨A, c, e, h1, h2, h3⟩ := own_at (xss := L.map rwC) (by simpa using h) (rw_len12 L)
    rw [List.length_map] at e h1
    exact ⟨A, c, e, h1, h2, h3⟩
theorem rw_at {w : World} {B : Nat} {A : Option Addr} {L : List RwT} (h : SlAt w B 12 A (L.map rwC)) {k : Nat} (hk : k < L.length) :
    ∃ b o, A = some ⟨b, o, none⟩ ∧ b < B ∧ w.cell? ⟨b, o + k * 12, none⟩ = some (.int .i64 L[k].1) ∧ w.cell? ⟨b, o + k * 12 + 1, none⟩ = some (.string L[k].2.name) ∧ w.cell? ⟨b, o + k * 12 + 2, none⟩ = some (.int .i64 L[k].2.f) ∧ w.cell? ⟨b, o + k * 12 + 3, none⟩ = some (.int .i64 L[k].2.t) ∧ w.cell? ⟨b, o + k * 12 + 4, none⟩ = some (.int .i64 L[k].2.m) ∧ w.cell? ⟨b, o + k * 12 + 5, none⟩ = some (.int .i64 L[k].2.k) ∧ w.cell? ⟨b, o + k * 12 + 6, none⟩ = some (.int .i64 L[k].2.wd) ∧ w.cell? ⟨b, o + k * 12 + 7, none⟩ = some (.int .i64 L[k].2.n) ∧ w.cell? ⟨b, o + k * 12 + 8, none⟩ = some (.int .i64 L[k].2.a) ∧ w.cell? ⟨b, o + k * 12 + 9, none⟩ = some (.int .i64 L[k].2.b) ∧ w.cell? ⟨b, o + k * 12 + 10, none⟩ = some (.int .i64 L[k].2.sv) ∧ w.cell? ⟨b, o + k * 12 + 11, none⟩ = some (.string L[k].2.letter) := by
  obtain ⟨b, o, h1, h2, h3⟩ := h (by simp; omega)
  have e : (L.map rwC).getD k [] = rwC L[k] := by simp [List.getD, hk]
  have h4 := h3 k (by simpa using hk)
  rw [e] at h4
  exact ⟨b, o, h1, h2, h4 0 (by omega), h4 1 (by omega), h4 2 (by omega), h4 3 (by omega), h4 4 (by omega), h4 5 (by omega), h4 6 (by omega), h4 7 (by omega), h4 8 (by omega), h4 9 (by omega), h4 10 (by omega), h4 11 (by omega)⟩
def nomJ (r : RuT) (j : Nat) : List RwT := (List.range j).map fun (i : Nat) => (ruT r (r.f + (i : Int)), r)
theorem nomJ_succ (r : RuT) (j : Nat) : nomJ r (j + 1) = nomJ r j ++ [(ruT r (r.f + (j : Int)), r)] := by simp [nomJ, List.range_succ]
theorem nomJ_all (r : RuT) : nomJ r (ruN r) = nomR r := rfl
theorem noms_take {F : List RuT} {k : Nat} (h : k < F.length) : noms (F.take (k + 1)) = noms (F.take k) ++ nomR F[k] := by rw [List.take_succ_eq_append_getElem h, noms_snoc]
theorem yrsN_take {F : List RuT} {k : Nat} (h : k < F.length) : yrsN (F.take (k + 1)) = yrsN (F.take k) + ruN F[k] := by rw [List.take_succ_eq_append_getElem h, yrsN_snoc]
theorem yrsN_split (F : List RuT) (k : Nat) : yrsN F = yrsN (F.take k) + yrsN (F.drop k) := by
  have h : yrsN (F.take k ++ F.drop k) = yrsN (F.take k) + yrsN (F.drop k) := by unfold yrsN; rw [List.map_append, List.sum_append]
  rwa [List.take_append_drop] at h
theorem rws_take {l : List RwT} (h : l.Pairwise (fun a b => a.1 ≤ b.1)) {k : Nat} (hk : k < l.length) {x : Int} (hx : l[k].1 ≤ x) : ∀ p ∈ l.take (k + 1), p.1 ≤ x := by
  intro p hp
  obtain ⟨i, hi, rfl⟩ := List.getElem_of_mem hp
  rw [List.length_take] at hi
  rw [List.getElem_take]
  by_cases he : i = k
  · subst he; exact hx
  · have := List.pairwise_iff_getElem.1 h i k (by omega) hk (by omega)
    omega
/-- where a new row goes -/
theorem rw_place {Y : List RwT} {x : RwT} {q : Nat} (hq : q ≤ (ssort Prod.fst Y).length) (h1 : q = 0 ∨ ∃ h : q - 1 < (ssort Prod.fst Y).length, (ssort Prod.fst Y)[q - 1].1 ≤ x.1) (h2 : ∀ t ∈ (ssort Prod.fst Y).drop q, x.1 < t.1) :
    ssort Prod.fst (Y ++ [x]) = (ssort Prod.fst Y).take q ++ x :: (ssort Prod.fst Y).drop q := by
  rw [ssort_snoc]
  have h := smerge_in Prod.fst ((ssort Prod.fst Y).take q) ((ssort Prod.fst Y).drop q) x (by
    rcases h1 with rfl | ⟨h, h1⟩
    · simp
    · cases q with
      | zero => simp
      | succ q => exact rws_take (ssort_sorted Prod.fst _ Y rfl) h h1) h2
  rw [List.take_append_drop] at h
  exact h
end Go.Proofs.YtanaoohgpdcfjaaGreatDoor
namespace Go.Proofs.YtanaoohgpdcfjaaGreatDoor
open Go.RowKit
set_option linter.unusedVariables false
set_option linter.unusedSimpArgs false
set_option maxRecDepth 100000 in
set_option maxHeartbeats 8000000 in
theorem r_Turns (AR AZ AL : Option Addr) (cR cZ cL nZ nL : Nat) (rs : List RuT) (nm : ByteArray) (off : Int) (w : World) (hA : SlAt w w.heap.size 11 AR (rs.map ruC)) (h1 : rs.length ≤ cR) (m1 : cR ≤ maxLen) (h40 : rs.length ≤ 40) (hb : ∀ r ∈ rs, RuB r) (ho1 : -100000 ≤ off) (ho2 : off ≤ 100000) :
    Calls Tryz.prog 11 #[.agg #[.slice AR rs.length cR, .slice AZ nZ cZ, .slice AL nL cL], .string nm, .int .i64 off] w (TuPost rs nm off w) := by
  obtain ⟨i0, hi0, hz0, hz1, hz2⟩ := info_parts info_Row
  obtain ⟨iT, hiT, hy0, hy1, hy2⟩ := info_parts info_Turn
  have hV := (Below.refl w.heap.size w).alloc (Nat.le_refl _) (.cells #[.slice AR rs.length cR, .slice AZ nZ cZ, .slice AL nL cL] 26)
  have HC := Lib.hid (r_rulesOf AR AZ AL cR cZ cL nZ nL rs nm (w.alloc (.cells #[.slice AR rs.length cR, .slice AZ nZ cZ, .slice AL nL cL] 26)) ((hA.below hV).more (by rw [size_alloc]; omega)) h1 m1 h40)
  have HB := Lib.hid hV
  have hFl : (fil rs nm).length ≤ 40 := by have := fil_len rs nm rs.length; rw [List.take_length] at this; omega
  have HR := Lib.hid (show ∀ r ∈ fil rs nm, RuB r from fun r hr => hb r (List.mem_filter.1 hr).1)
  obtain ⟨F, hF⟩ : ∃ F, fil rs nm = F := ⟨_, rfl⟩
  rw [hF] at HC hFl HR
  have HF := Lib.hid hF
  obtain ⟨N, hN⟩ : ∃ N, rs.length = N := ⟨_, rfl⟩
  rw [hN] at HC HB ⊢
  clear hV hA h1 m1 h40 hb hF hN
  go_enter Tryz.func11, Tryz.ntmps11
  go_wp2_with fail
  refine HC.out.mono ?_
  rintro e w2 ⟨v, rfl, hv, hb2⟩
  obtain ⟨A, cF, rfl, f1, f2, hS⟩ := own_at (xss := F.map ruC) (by simpa using hv) (by intro xs hx; obtain ⟨t, _, rfl⟩ := List.mem_map.1 hx; rfl)
  rw [List.length_map] at f1 ⊢
  unfold maxLen at f2
  have HS := Lib.hid hS
  have HB2 := Lib.hid (HB.out.trans (hb2.mono HB.out.size))
  clear HC HB hv hb2 hS
  obtain ⟨M, hM⟩ : ∃ M, F.length = M := ⟨_, rfl⟩
  rw [hM] at f1 hFl ⊢
  have HM := Lib.hid hM
  clear hM
  by_cases hM0 : M = 0
  · have HX := Lib.hid (turn_none (off := off) (show fil rs nm = [] by rw [HF.out]; exact List.length_eq_zero_iff.1 (by rw [HM.out]; exact hM0)))
    go_wp2_with fail
    go_ret2
    exact tu_bad HX.out HB2.out
  · have hMp : 0 < M := by omega
    have HNE := Lib.hid (show fil rs nm ≠ [] by rw [HF.out]; intro h; rw [h] at HM; exact hM0 HM.out.symm)
    have hM1 : ((M : Int) == 0) = false := by rw [beq_eq_false_iff_ne]; omega
    have hzW : w.heap.size ≤ w2.heap.size := HB2.out.size
    clear hM0
    go_wp2_with fail
    obtain ⟨B, hB⟩ : ∃ B, w2.heap.size = B := ⟨_, rfl⟩
    rw [hB] at HS hzW
    have HBs := Lib.hid hB
    have HB0 := Lib.hid (show Below B w2 w2 from Below.refl _ _)
    clear hB
    go_loopw [10, 32] (fun y i wr => ∃ (k yr : Nat), k ≤ M ∧ y = .int .i64 yr ∧ i = .int .i64 k ∧ yr ≤ 201 * k ∧ Hid (yr = yrsN (F.take k)) ∧ Hid (Below B w2 wr)) (fun _ i _ => M - (intOf i).toNat)
    case atStart => exact ⟨0, 0, Nat.zero_le _, rfl, rfl, Nat.le_refl _, Lib.hid rfl, HB0⟩
    case round =>
      clear HB0
      obtain ⟨k, yr, hk, rfl, rfl, hyr, HY, HB⟩ := hrel
      have hi1 : (0 : Int) ≤ (k : Int) := by omega
      by_cases hlt : k < M
      · as_aux_lemma =>
        have hkF : k < F.length := by rw [HM.out]; exact hlt
        obtain ⟨b, o, rfl, hbb, c0, c1, c2, c3, c4, c5, c6, c7, c8, c9, c10⟩ := ru_at (HS.out.below HB.out) hkF
        have hzb : b < wr.heap.size := by have := HB.out.size; have := HBs.out; omega
        have hi2 : (k : Int) < (M : Int) := by omega
        obtain ⟨⟨q1, q2, q3⟩, _⟩ := HR.out _ (List.getElem_mem hkF)
        have hn := (HR.out _ (List.getElem_mem hkF)).n
        have HY2 := Lib.hid (yrsN_take hkF)
        obtain ⟨r, hr⟩ : ∃ r, F[k] = r := ⟨_, rfl⟩
        rw [hr] at c0 c1 c2 c3 c4 c5 c6 c7 c8 c9 c10 q1 q2 q3 hn HY2
        obtain ⟨J, hJ⟩ : ∃ J, ruN r = J := ⟨_, rfl⟩
        rw [hJ] at hn HY2
        obtain ⟨hn0, hn1, hn2⟩ := hn
        clear hr hJ
        have ey : (yr : Int) + (r.t - r.f + 1) = ((yr + J : Nat) : Int) := by omega
        obtain ⟨yr2, hy2⟩ : ∃ y, yr + J = y := ⟨_, rfl⟩
        rw [hy2] at ey
        have HY3 := Lib.hid (show yr2 = yrsN (F.take (k + 1)) by rw [HY2.out, ← HY.out]; omega)
        go_wp2_with fail
        exact ⟨⟨k + 1, yr2, by omega, rfl, by go_num, by omega, HY3, Lib.hid (HB.out.alloc (by have := HB.out.size; have := HBs.out; omega) _)⟩, by simp only [intOf]; omega⟩
      · obtain rfl : k = M := by omega
        have HYY := Lib.hid (show yr = yrsN (fil rs nm) by rw [HY.out, List.take_of_length_le (by rw [HM.out]; omega), HF.out])
        clear HY
        by_cases hbig : 1500 < yr
        · as_aux_lemma =>
          have HX := Lib.hid (turn_large (off := off) HNE.out (by rw [← HYY.out]; exact hbig))
          have hbig' : (1500 : Int) < (yr : Int) := by omega
          go_wp2_with fail
          go_ret2
          exact tu_bad HX.out (HB2.out.trans (HB.out.mono hzW))
        · have hbig' : ¬ (1500 : Int) < (yr : Int) := by omega
          have HNB := Lib.hid (show ¬ 1500 < yrsN (fil rs nm) by rw [← HYY.out]; exact hbig)
          go_wp2_with fail
          go_loopw [8, 49] (fun v i wr => ∃ (k2 : Nat), k2 ≤ k ∧ i = .int .i64 k2 ∧ Hid (RwRow wr B v (ssort Prod.fst (noms (F.take k2)))) ∧ Hid (Below B w2 wr)) (fun _ i _ => k - (intOf i).toNat)
          case atStart => exact ⟨0, Nat.zero_le _, rfl, Lib.hid (Or.inl ⟨rfl, rfl⟩), HB⟩
          case round =>
            clear HB
            obtain ⟨p, hp, rfl, HO, HB⟩ := hrel
            have hj1 : (0 : Int) ≤ (p : Int) := by omega
            by_cases hlt2 : p < k
            · have hpF : p < F.length := by rw [HM.out]; exact hlt2
              obtain ⟨b, o, rfl, hbb, c0, c1, c2, c3, c4, c5, c6, c7, c8, c9, c10⟩ := ru_at (HS.out.below HB.out) hpF
              have hzB : B ≤ wr.heap.size := by have := HB.out.size; have := HBs.out; omega
              have hzb : b < wr.heap.size := by omega
              have hj2 : (p : Int) < (k : Int) := by omega
              have hRB := HR.out _ (List.getElem_mem hpF)
              have HNS := Lib.hid (noms_take hpF)
              have HYN := Lib.hid (show yrsN (F.take p) + ruN F[p] ≤ 1500 by
                have h1 := yrsN_take hpF
                have h2 : yrsN F = yrsN (F.take (p + 1)) + yrsN (F.drop (p + 1)) := yrsN_split F (p + 1)
                have h3 := HNB.out
                rw [HF.out] at h3
                omega)
              obtain ⟨r, hr⟩ : ∃ r, F[p] = r := ⟨_, rfl⟩
              rw [hr] at c0 c1 c2 c3 c4 c5 c6 c7 c8 c9 c10 hRB HNS HYN
              have hn := hRB.n
              obtain ⟨J, hJ⟩ : ∃ J, ruN r = J := ⟨_, rfl⟩
              rw [hJ] at hn HYN
              have HJ := Lib.hid hJ
              obtain ⟨hn0, hn1, hn2⟩ := hn
              have HRB := Lib.hid hRB
              obtain ⟨⟨q1, q2, q3⟩, ⟨q4, q5⟩, q6, q7⟩ := hRB
              clear hr hJ q6 q7
              have hV1 := (Below.refl wr.heap.size wr).alloc (Nat.le_refl _) (.cells (ruA r) 54)
              have HG := Lib.hid (Blk.new wr (ruA r) 54)
              replace HO := Lib.hid (HO.out.step hV1)
              replace HB := Lib.hid (HB.out.trans (hV1.mono hzB))
              have kr := HG.out.cell
              clear hV1 hyr hbig
              go_wp2_with fail
              clear c0 c1 c2 c3 c4 c5 c6 c7 c8 c9 c10 kr
              obtain ⟨g, hg⟩ : ∃ g, wr.heap.size = g := ⟨_, rfl⟩
              rw [hg] at HG hzB hzb ⊢
              obtain ⟨wx, hwx⟩ : ∃ wx, wr.alloc (.cells (ruA r) 54) = wx := ⟨_, rfl⟩
              rw [hwx] at HG HO HB ⊢
              clear hwx hg
              obtain ⟨Z, hZ⟩ : ∃ Z, noms (F.take p) = Z := ⟨_, rfl⟩
              have hZl : Z.length = yrsN (F.take p) := by rw [← hZ, noms_len]
              rw [hZ] at HO HNS
              rw [← hZl] at HYN
              clear hZl hZ
              go_loopw [8, 15] (fun v y wq => ∃ (j : Nat) (d : Int), j ≤ J ∧ d = r.f + j ∧ y = .int .i64 d ∧ Hid (RwRow wq B v (ssort Prod.fst (Z ++ nomJ r j))) ∧ Hid (Blk wq g 54 (ruA r)) ∧ Hid (Below B w2 wq)) (fun _ y _ => (r.t + 1 - intOf y).toNat)
              case atStart => exact ⟨0, _, Nat.zero_le _, rfl, by simp, Lib.hid (by simpa [nomJ] using HO.out), HG, HB⟩
              case round =>
                clear HO HG HB
                obtain ⟨j, d, hj, hd, rfl, HO, HG, HB⟩ := hrel
                have kr := HG.out.cell
                by_cases hjN : j < J
                · skip
                  have hdt : d ≤ r.t := by omega
                  have HC := Lib.hid (fun wx => r_DayOf d r.m r.k r.wd r.n wx)
                  have hD := dofV_bd d r.m r.k r.wd r.n
                  have HTd := Lib.hid (show 86400 * dofV d r.m r.k r.wd r.n + r.a = ruT r d from rfl)
                  have HSc := Lib.hid (show nomJ r (j + 1) = nomJ r j ++ [(ruT r d, r)] by rw [hd]; exact nomJ_succ r j)
                  have HD := Lib.hid hd
                  have hwd : IntKind.i64.wrap (d + 1) = d + 1 := IntWalk.i64_in _ (by omega)
                  obtain ⟨D, hDD⟩ : ∃ D, dofV d r.m r.k r.wd r.n = D := ⟨_, rfl⟩
                  obtain ⟨T, hT⟩ : ∃ T, ruT r d = T := ⟨_, rfl⟩
                  rw [hDD] at HC hD HTd
                  rw [hT] at HTd HSc
                  clear hDD hT hd
                  go_wp2_with fail
                  refine (HC.out _).mono ?_
                  rintro e w5 ⟨rfl, hb5⟩
                  have hzq : B ≤ wr.heap.size := by have := HB.out.size; have := HBs.out; omega
                  replace HO := Lib.hid (HO.out.step hb5)
                  replace HG := Lib.hid (HG.out.step hb5)
                  replace HB := Lib.hid (HB.out.trans (hb5.mono hzq))
                  have hz5 : B ≤ w5.heap.size := by have := hb5.size; omega
                  clear HC kr hb5 hzq
                  have kr := HG.out.cell
                  have eT : 86400 * D + r.a = T := HTd.out
                  obtain ⟨hD1, hD2⟩ := hD
                  obtain ⟨Y, hY⟩ : ∃ Y, Z ++ nomJ r j = Y := ⟨_, rfl⟩
                  have HYE := Lib.hid (show Z ++ nomJ r (j + 1) = Y ++ [(T, r)] by rw [HSc.out, ← List.append_assoc, hY])
                  have hYl : Y.length ≤ 1500 := by rw [← hY, List.length_append]; have := HYN.out; simp [nomJ]; omega
                  rw [hY] at HO
                  clear hY
                  have HPL := Lib.hid (fun (q : Nat) => rw_place (Y := Y) (x := (T, r)) (q := q))
                  have hLl : (ssort Prod.fst Y).length ≤ 1500 := by rw [ssort_len Prod.fst _ Y rfl]; exact hYl
                  obtain ⟨L, hL⟩ : ∃ L, ssort Prod.fst Y = L := ⟨_, rfl⟩
                  rw [hL] at HO HPL hLl
                  clear hL hYl
                  obtain ⟨hv1, hv2⟩ : Below w5.heap.size w5 (w5.alloc (.cells (rwA T r) 84)) ∧ Blk (w5.alloc (.cells (rwA T r) 84)) w5.heap.size 84 (rwA T r) := ⟨(Below.refl _ _).alloc (Nat.le_refl _) _, Blk.new _ _ _⟩
                  replace HO := Lib.hid (HO.out.step hv1)
                  replace HG := Lib.hid (HG.out.step hv1)
                  replace HB := Lib.hid (HB.out.trans (hv1.mono hz5))
                  have HX := Lib.hid hv2
                  clear hv1 hv2
                  go_upto_region 20 with fail
                  rcases HO.out with ⟨rfl, rfl⟩ | ⟨G, cap, rfl, hO⟩
                  · go_wp2_with fail
                    obtain ⟨gx, hgx⟩ : ∃ gx, w5.heap.size = gx := ⟨_, rfl⟩
                    rw [hgx] at HX hz5 ⊢
                    obtain ⟨V0, hV0⟩ : ∃ V0, w5.alloc (.cells (rwA T r) 84) = V0 := ⟨_, rfl⟩
                    rw [hV0] at HG HB HX HO ⊢
                    clear hV0 hgx kr
                    go_loopw [19] (fun i wr => i = .int .i64 0 ∧ Hid (Blk wr g 54 (ruA r)) ∧ Hid (Blk wr gx 84 (rwA T r)) ∧ Hid (Below B w2 wr)) (fun _ _ => 0)
                    case atStart => exact ⟨rfl, HG, HX, HB⟩
                    case round =>
                      clear HG HX HB HO
                      obtain ⟨rfl, HG, HX, HB⟩ := hrel
                      go_wp2_with fail
                      go_quiet (fail)
                      rename_i nq
                      have hVq := below_drewN (Below.refl wr.heap.size wr) nq
                      have hzw : B ≤ wr.heap.size := by have := HB.out.size; have := HBs.out; omega
                      replace HG := Lib.hid (HG.out.step hVq)
                      replace HX := Lib.hid (HX.out.step hVq)
                      replace HB := Lib.hid (HB.out.trans (hVq.mono hzw))
                      have hzV : B ≤ (wr.drewN nq).heap.size := hzw
                      clear hVq hzw
                      generalize wr.drewN nq = V at HG HX HB hzV ⊢
                      have xc := HX.out.cell
                      have xl := HX.out.lt
                      have kr := HG.out.cell
                      have gl := HG.out.lt
                      have HP := Lib.hid (HPL.out 0 (Nat.le_refl _) (Or.inl rfl) (by simp))
                      go_wp2_with fail
                      go_region_law (refine step_append_grows rfl (.tmp 97) (.tmp 103) 80 rfl 84 i0 _ 12 112 Tryz.underlying80 hi0 hz0 hz1 hz2 rfl (by omega) none 0 0 [] (by rfl) (fun _ => ⟨rfl, rfl⟩) rfl (fun b hb => by cases hb) ⟨V.heap.size, 0, none⟩ 1 1 (rwC (T, r)) (by rfl) rfl (World.news_of_block (cs := rwA T r) (t := 84) (fr := (0, 0)) (heap_alloc_new V _)) rw_one1 (by omega) (by unfold maxLen; omega) (by omega) ?_; intro v2 w7 hown2 hgrow2; obtain ⟨g2, cap2, rfl, hge2, hlt2⟩ := hown2.form (by omega))
                      all_goals
                        clear xc xl kr gl
                        have hB9 := Lib.hid ((HB.out.alloc hzV (.cells (rwA T r) 84)).drew.grown hgrow2 (by simp; omega) (fun j hj => by cases hj))
                        have hG9 := Lib.hid (Blk.grown' hgrow2 (HG.out.alloc (.cells (rwA T r) 84)).drew (by simp))
                        go_wp2_with fail
                        exact ⟨⟨j + 1, d + 1, by omega, by have := HD.out; omega, by go_num, Lib.hid (by rw [HYE.out, HP.out]; exact (by have h := rw_done1 (L := []) (x := (T, r)) (World.ownsRow.mono hown2 (show B ≤ _ by simp; omega)); exact h)), hG9, hB9⟩, by simp only [intOf]; omega⟩
                  · replace HO := Lib.hid hO
                    clear hO
                    go_wp2_with fail
                    obtain ⟨gx, hgx⟩ : ∃ gx, w5.heap.size = gx := ⟨_, rfl⟩
                    rw [hgx] at HX hz5 ⊢
                    obtain ⟨V0, hV0⟩ : ∃ V0, w5.alloc (.cells (rwA T r) 84) = V0 := ⟨_, rfl⟩
                    rw [hV0] at HG HB HX HO ⊢
                    clear hV0 hgx kr
                    go_loopw [19] (fun i wr => ∃ q : Nat, q ≤ L.length ∧ i = .int .i64 q ∧ Hid (∀ t ∈ L.drop q, T < t.1) ∧ Hid (wr.ownsRow B 84 12 (.slice (some ⟨G, 0, none⟩) L.length cap) L.length (L.map rwC).flatten) ∧ Hid (Blk wr g 54 (ruA r)) ∧ Hid (Blk wr gx 84 (rwA T r)) ∧ Hid (Below B w2 wr)) (fun i _ => (intOf i).toNat)
                    case atStart => exact ⟨L.length, Nat.le_refl _, rfl, Lib.hid (by rw [List.drop_length]; simp), HO, HG, HX, HB⟩
                    case round =>
                      clear HG HX HB HO
                      obtain ⟨q, hq, rfl, HDr, HO, HG, HX, HB⟩ := hrel
                      have hcap : L.length ≤ cap ∧ cap ≤ 9223372036854775807 := by
                        rcases HO.out.2 with ⟨h, _⟩ | ⟨g, c, cur, e, _, _, h1, h2, _⟩
                        · cases h
                        · cases e; exact ⟨h1, h2⟩
                      have hi5 : (0 : Int) ≤ (q : Int) := by omega
                      have hi6 : (q : Int) ≤ (L.length : Int) := by omega
                      have hi7 : (L.length : Int) ≤ (cap : Int) := by omega
                      have hi8 : (q : Int) ≤ (cap : Int) := by omega
                      obtain ⟨P, hP⟩ : ∃ P, (L.getD (q - 1) default).1 = P := ⟨_, rfl⟩
                      have HP0 := Lib.hid (show 0 < q → wr.cell? ⟨G, (q - 1) * 12, none⟩ = some (.int .i64 P) from fun h => by
                        have hq1 : q - 1 < L.length := by omega
                        have p0 := rw_cells HO.out hq1 0 (by omega)
                        rw [Nat.add_zero, show (rwC L[q - 1])[0]? = some (.int .i64 L[q - 1].1) from rfl] at p0
                        rw [p0, ← hP]; simp [List.getD, hq1])
                      have HPP := Lib.hid (show ¬ (0 < q ∧ T < P) → ssort Prod.fst (Y ++ [(T, r)]) = L.take q ++ (T, r) :: L.drop q from fun h => HPL.out q hq (by
                        by_cases h0 : q = 0
                        · exact Or.inl h0
                        · have hq1 : q - 1 < L.length := by omega
                          refine Or.inr ⟨hq1, ?_⟩
                          have e : L[q - 1].1 = P := by rw [← hP]; simp [List.getD, hq1]
                          show L[q - 1].1 ≤ T
                          omega) HDr.out)
                      have HDD := Lib.hid (show 0 < q ∧ T < P → ∀ t ∈ L.drop (q - 1), T < t.1 from fun h t ht => by
                        have hq1 : q - 1 < L.length := by omega
                        have e : L[q - 1].1 = P := by rw [← hP]; simp [List.getD, hq1]
                        rw [List.drop_eq_getElem_cons hq1] at ht
                        rcases List.mem_cons.1 ht with rfl | ht
                        · rw [e]; exact h.2
                        · exact HDr.out t (by rwa [show q - 1 + 1 = q by omega] at ht))
                      clear hP HDr
                      go_upto_region 22 with fail
                      go_cut [91] from 79 to 93 (fun v wx => ∃ gg : Bool, v = .bool gg ∧ Hid (gg = true ↔ (0 < q ∧ T < P)) ∧ Hid (wx.ownsRow B 84 12 (.slice (some ⟨G, 0, none⟩) L.length cap) L.length (L.map rwC).flatten) ∧ Hid (Blk wx g 54 (ruA r)) ∧ Hid (Blk wx gx 84 (rwA T r)) ∧ Hid (Below B w2 wx))
                      case first =>
                        by_cases hq0 : q = 0
                        · have hdk : decide ((0 : Int) < (q : Int)) = false := by simp; omega
                          have hdk2 : ¬ 0 < q := by omega
                          go_quiet (fail)
                          rename_i nq
                          have hVq := below_drewN (Below.refl wr.heap.size wr) nq
                          have hzw : B ≤ wr.heap.size := by have := HB.out.size; have := HBs.out; omega
                          replace HO := Lib.hid (own_step HO.out hVq)
                          replace HG := Lib.hid (HG.out.step hVq)
                          replace HX := Lib.hid (HX.out.step hVq)
                          replace HB := Lib.hid (HB.out.trans (hVq.mono hzw))
                          have hzV : B ≤ (wr.drewN nq).heap.size := hzw
                          clear hVq hzw
                          generalize wr.drewN nq = V at HO HG HX HB hzV ⊢
                          try go_wp2_with fail
                          go_meet
                          exact ⟨false, rfl, Lib.hid (by simp [hdk2]), HO, HG, HX, HB⟩
                        · have hi9 : (0 : Int) ≤ (q : Int) - 1 := by omega
                          have hi10 : (q : Int) - 1 < (L.length : Int) := by omega
                          have hi11 : 0 < q := by omega
                          have p0 := HP0.out hi11
                          have xc := HX.out.cell
                          by_cases hTP : T < P
                          · go_quiet (fail)
                            clear p0 xc
                            rename_i nq
                            have hVq := below_drewN (Below.refl wr.heap.size wr) nq
                            have hzw : B ≤ wr.heap.size := by have := HB.out.size; have := HBs.out; omega
                            replace HO := Lib.hid (own_step HO.out hVq)
                            replace HG := Lib.hid (HG.out.step hVq)
                            replace HX := Lib.hid (HX.out.step hVq)
                            replace HB := Lib.hid (HB.out.trans (hVq.mono hzw))
                            have hzV : B ≤ (wr.drewN nq).heap.size := hzw
                            clear hVq hzw
                            generalize wr.drewN nq = V at HO HG HX HB hzV ⊢
                            try go_wp2_with fail
                            go_meet
                            exact ⟨true, rfl, Lib.hid (by simp [hi11, hTP]), HO, HG, HX, HB⟩
                          · go_quiet (fail)
                            clear p0 xc
                            rename_i nq
                            have hVq := below_drewN (Below.refl wr.heap.size wr) nq
                            have hzw : B ≤ wr.heap.size := by have := HB.out.size; have := HBs.out; omega
                            replace HO := Lib.hid (own_step HO.out hVq)
                            replace HG := Lib.hid (HG.out.step hVq)
                            replace HX := Lib.hid (HX.out.step hVq)
                            replace HB := Lib.hid (HB.out.trans (hVq.mono hzw))
                            have hzV : B ≤ (wr.drewN nq).heap.size := hzw
                            clear hVq hzw
                            generalize wr.drewN nq = V at HO HG HX HB hzV ⊢
                            try go_wp2_with fail
                            go_meet
                            exact ⟨false, rfl, Lib.hid (by simp [hTP]), HO, HG, HX, HB⟩
                      case rest =>
                        clear HO HG HX HB HP0
                        obtain ⟨gg, rfl, HGG, HO, HG, HX, HB⟩ := hcut
                        cases gg with
                        | true =>
                          have hgg := HGG.out.1 rfl
                          have HD2 := Lib.hid (HDD.out hgg)
                          obtain ⟨hq0, _⟩ := hgg
                          have hi9 : (0 : Int) ≤ (q : Int) - 1 := by omega
                          go_wp2_with fail
                          exact ⟨⟨q - 1, by omega, by go_num, HD2, HO, HG, HX, HB⟩, by simp only [intOf]; omega⟩
                        | false =>
                          have HP := Lib.hid (HPP.out (fun h => by have := HGG.out.2 h; cases this))
                          clear HPP HDD HGG
                          have hzV : B ≤ wc.heap.size := by have := HB.out.size; have := HBs.out; omega
                          obtain ⟨V, hV⟩ : ∃ V, V = wc := ⟨_, rfl⟩
                          subst hV
                          have xc := HX.out.cell
                          have xl := HX.out.lt
                          have kr := HG.out.cell
                          have gl := HG.out.lt
                          have hGl := (World.ownsRow.lt HO.out G rfl).2
                          by_cases hqe : q < L.length
                          · have hck : ¬ cap = q := by omega
                            go_wp2_with fail
                            go_region_law (first | (refine step_append_grows rfl (.tmp 99) (.tmp 102) 80 rfl 84 i0 _ 12 112 Tryz.underlying80 hi0 hz0 hz1 hz2 rfl (by omega) (some ⟨V.heap.size, 0, none⟩) 1 1 (rwC (T, r)) (by rfl) (fun h => by cases h) rfl (fun b hb => by cases hb; exact World.news_of_block (cs := rwA T r) (t := 84) (fr := (0, 0)) (heap_alloc_new V _)) ⟨G, q * 12, none⟩ (L.length - q) (cap - q) ((L.map rwC).flatten.drop (q * 12)) (by rfl) (by rw [List.length_drop, rw_flen]; omega) (rw_own_from (World.ownsRow.alloc HO.out _)) (fun u hu => rw_one u (List.mem_of_mem_drop hu)) (by omega) (by unfold maxLen; omega) (by omega) ?_; intro v1 w6 hown1 hgrow1; obtain ⟨g1, cap1, rfl, hge1, hlt1⟩ := hown1.form (by omega)) | (refine step_append_grows rfl (.tmp 97) (.tmp 103) 80 rfl 84 i0 _ 12 112 Tryz.underlying80 hi0 hz0 hz1 hz2 rfl (by omega) (some ⟨G, 0, none⟩) q q ((L.map rwC).flatten.take (q * 12)) (by rfl) (fun h => by cases h) (by rw [List.length_take, rw_flen]; omega) (fun b hb => by cases hb; exact rw_own_take (rw_own_heap HO.out ((hgrow1.block G (by simp; omega) (by simp)).trans (Below.heap_alloc V _ G hGl)))) ⟨g1, 0, none⟩ (1 + (L.length - q)) cap1 (rwC (T, r) ++ (L.map rwC).flatten.drop (q * 12)) (by rfl) (by rw [List.length_append, List.length_drop, rw_flen]; simp [rwC, ruC]; omega) (hown1.cells rfl) (fun u hu => (List.mem_append.1 hu).elim (fun h => rw_one1 u h) (fun h => rw_one u (List.mem_of_mem_drop h))) (by omega) (by unfold maxLen; omega) (by omega) ?_; intro v2 w7 hown2 hgrow2; obtain ⟨g2, cap2, rfl, hge2, hlt2⟩ := hown2.form (by omega)))
                            all_goals
                              clear xc xl kr gl
                              have hB9 := Lib.hid (((HB.out.alloc hzV (.cells (rwA T r) 84)).drew.grown hgrow1 (by simp; omega) (fun j hj => by cases hj)).grown hgrow2 (by have := hgrow1.size; simp at this; omega) (fun j hj => by cases hj))
                              have hG9 := Lib.hid (Blk.grown' hgrow2 (Blk.grown' hgrow1 (HG.out.alloc (.cells (rwA T r) 84)).drew (by simp)) (by simp))
                              go_wp2_with fail
                              exact ⟨⟨j + 1, d + 1, by omega, by have := HD.out; omega, by go_num, Lib.hid (by rw [HYE.out, HP.out]; exact rw_done hq (World.ownsRow.mono hown2 (show B ≤ _ by have := hgrow1.size; simp at this; omega))), hG9, hB9⟩, by simp only [intOf]; omega⟩
                          · obtain rfl : q = L.length := by omega
                            go_wp2_with fail
                            by_cases hcl : cap = L.length
                            · subst hcl
                              go_region_law (refine step_append_grows rfl (.tmp 97) (.tmp 103) 80 rfl 84 i0 _ 12 112 Tryz.underlying80 hi0 hz0 hz1 hz2 rfl (by omega) (some ⟨G, 0, none⟩) L.length L.length (L.map rwC).flatten (by rfl) (fun h => by cases h) (by rw [rw_flen]) (fun b hb => by cases hb; exact (World.ownsRow.alloc HO.out _).cells rfl) ⟨V.heap.size, 0, none⟩ 1 1 (rwC (T, r)) (by rfl) rfl (World.news_of_block (cs := rwA T r) (t := 84) (fr := (0, 0)) (heap_alloc_new V _)) rw_one1 (by omega) (by unfold maxLen; omega) (by omega) ?_; intro v2 w7 hown2 hgrow2; obtain ⟨g2, cap2, rfl, hge2, hlt2⟩ := hown2.form (by omega))
                              all_goals
                                clear xc xl kr gl
                                have hB9 := Lib.hid ((HB.out.alloc hzV (.cells (rwA T r) 84)).drew.grown hgrow2 (by simp; omega) (fun j hj => by cases hj))
                                have hG9 := Lib.hid (Blk.grown' hgrow2 (HG.out.alloc (.cells (rwA T r) 84)).drew (by simp))
                                go_wp2_with fail
                                exact ⟨⟨j + 1, d + 1, by omega, by have := HD.out; omega, by go_num, Lib.hid (by rw [HYE.out, HP.out]; exact rw_done1 (World.ownsRow.mono hown2 (show B ≤ _ by simp; omega))), hG9, hB9⟩, by simp only [intOf]; omega⟩
                            · go_region_law (refine step_append_grows rfl (.tmp 97) (.tmp 103) 80 rfl 84 i0 _ 12 112 Tryz.underlying80 hi0 hz0 hz1 hz2 rfl (by omega) (some ⟨G, 0, none⟩) L.length L.length (L.map rwC).flatten (by rfl) (fun h => by cases h) (by rw [rw_flen]) (fun b hb => by cases hb; exact (World.ownsRow.alloc HO.out _).cells rfl) ⟨V.heap.size, 0, none⟩ 1 1 (rwC (T, r)) (by rfl) rfl (World.news_of_block (cs := rwA T r) (t := 84) (fr := (0, 0)) (heap_alloc_new V _)) rw_one1 (by omega) (by unfold maxLen; omega) (by omega) ?_; intro v2 w7 hown2 hgrow2; obtain ⟨g2, cap2, rfl, hge2, hlt2⟩ := hown2.form (by omega))
                              all_goals
                                clear xc xl kr gl
                                have hB9 := Lib.hid ((HB.out.alloc hzV (.cells (rwA T r) 84)).drew.grown hgrow2 (by simp; omega) (fun j hj => by cases hj))
                                have hG9 := Lib.hid (Blk.grown' hgrow2 (HG.out.alloc (.cells (rwA T r) 84)).drew (by simp))
                                go_wp2_with fail
                                exact ⟨⟨j + 1, d + 1, by omega, by have := HD.out; omega, by go_num, Lib.hid (by rw [HYE.out, HP.out]; exact rw_done1 (World.ownsRow.mono hown2 (show B ≤ _ by simp; omega))), hG9, hB9⟩, by simp only [intOf]; omega⟩
                · skip
                  have hdt : ¬ d ≤ r.t := by omega
                  obtain rfl : j = J := by omega
                  go_wp2_with fail
                  exact ⟨⟨p + 1, by omega, by go_num, Lib.hid (by rw [HNS.out, ← nomJ_all, HJ.out]; exact HO.out), HB⟩, by simp only [intOf]; omega⟩
            · obtain rfl : p = k := by omega
              have HRR := Lib.hid (show ∀ z ∈ turnS rs nm, RuB z.2 ∧ -20000000000 ≤ z.1 ∧ z.1 ≤ 20000000000 by
                intro z hz
                obtain ⟨h2, y, h3⟩ := noms_mem ((ssort_mem Prod.fst _ _ rfl z).1 hz)
                rw [HF.out] at h2
                exact ⟨HR.out _ h2, by rw [h3]; exact ruT_bd (HR.out _ h2) y⟩)
              have HO8 := Lib.hid (show RwRow wr B u8 (turnS rs nm) by
                have h := HO.out
                rw [List.take_of_length_le (by rw [HM.out]; omega)] at h
                rw [turnS, HF.out]
                exact h)
              have HL15 := Lib.hid (show (turnS rs nm).length ≤ 1500 by rw [turnS, ssort_len Prod.fst _ _ rfl, noms_len]; have := HNB.out; omega)
              obtain ⟨A8, c8, rfl, g81, g82, hS8⟩ := rw_sl HO8.out
              obtain ⟨S, hS⟩ : ∃ S, turnS rs nm = S := ⟨_, rfl⟩
              rw [hS] at HRR HL15 g81 hS8 ⊢
              have HSS := Lib.hid hS
              clear HO HO8 hS hyr hbig
              unfold maxLen at g82
              have hL15 := HL15.out
              obtain ⟨M8, hM8⟩ : ∃ M8, S.length = M8 := ⟨_, rfl⟩
              rw [hM8] at g81 hL15 ⊢
              have HM8 := Lib.hid hM8
              have HS8 := Lib.hid (fun (V : World) (hb : Below wr.heap.size wr V) => hS8.below hb)
              have HE8 := Lib.hid (show w.heap.size ≤ wr.heap.size ∧ ∀ V : World, Below wr.heap.size wr V → Below w.heap.size w V from ⟨by have := HB.out.size; have := HBs.out; omega, fun V hb => HB2.out.trans ((HB.out.trans (hb.mono (by have := HB.out.size; have := HBs.out; omega))).mono hzW)⟩)
              have HB8 := Lib.hid (Below.refl wr.heap.size wr)
              obtain ⟨B8, hB8⟩ : ∃ B8, wr.heap.size = B8 := ⟨_, rfl⟩
              have HZ8 := Lib.hid (fun (V : World) (hb : Below wr.heap.size wr V) => hb.size)
              rw [hB8] at HS8 HE8 HB8 HZ8
              obtain ⟨w8, hw8⟩ : ∃ w8, wr = w8 := ⟨_, rfl⟩
              rw [hw8] at HS8 HE8 HB8 HZ8 ⊢
              clear hB8 hM8 hS8 HB HL15 hw8
              go_wp2_with fail
              go_loopw [20, 108] (fun v i wx => ∃ (q : Nat), q ≤ M8 ∧ i = .int .i64 q ∧ Hid (∀ j, j < q → tuBad off S j = false) ∧ Hid (wx.ownsRow B8 34 3 v (((List.range q).map (tuV off S)).map tuCells).length (((List.range q).map (tuV off S)).map tuCells).flatten) ∧ Hid (Below B8 w8 wx)) (fun _ i _ => M8 - (intOf i).toNat)
              case atStart => exact ⟨0, Nat.zero_le _, rfl, Lib.hid (fun j h => absurd h (by omega)), Lib.hid (World.ownsRow_nil _ _ _ _), HB8⟩
              case round =>
                clear HB8
                obtain ⟨q, hq, rfl, HBD, HO, HB⟩ := hrel
                by_cases hlt3 : q < M8
                · have hqS : q < S.length := by rw [HM8.out]; exact hlt3
                  have hi5 : (0 : Int) ≤ (q : Int) := by omega
                  have hi6 : (q : Int) < (M8 : Int) := by omega
                  have hzB8 : B8 ≤ wr.heap.size := HZ8.out _ HB.out
                  obtain ⟨b8, o8, e8, hb8, d0, d1, d2, d3, d4, d5, d6, d7, d8, d9, d10, d11⟩ := rw_at (HS8.out _ HB.out) hqS
                  have HPC := Lib.hid (fun (h : 0 < q) => rw_at (HS8.out _ HB.out) (k := q - 1) (by omega))
                  obtain ⟨hrb, ht1, ht2⟩ := HRR.out _ (List.getElem_mem hqS)
                  obtain ⟨_, _, ⟨hb0, hb2⟩, ⟨hv0, hv1⟩⟩ := hrb
                  have HTV := Lib.hid (show S.getD q default = S[q] by simp [List.getD, hqS])
                  have HSB := Lib.hid (show 0 ≤ prevS S q ∧ prevS S q ≤ 10800 by
                    unfold prevS
                    by_cases h : q = 0
                    · rw [if_pos h]; omega
                    · have hq1 : q - 1 < S.length := by omega
                      have := (HRR.out _ (List.getElem_mem hq1)).1.2.2.2
                      rw [if_neg h]; simpa [List.getD, hq1] using this)
                  have HPG := Lib.hid (fun (h : 0 < q) => show S[q - 1].2.sv = prevS S q by
                    have hq1 : q - 1 < S.length := by omega
                    unfold prevS; rw [if_neg (by omega)]; simp [List.getD, hq1])
                  have HP0 := Lib.hid (fun (h : 0 < q) => show wr.cell? ⟨b8, o8 + (q - 1) * 12 + 10, none⟩ = some (.int .i64 (prevS S q)) by
                    obtain ⟨b9, o9, e9, _, _, _, _, _, _, _, _, _, _, _, p10, _⟩ := HPC.out h
                    rw [e8] at e9
                    simp only [Option.some.injEq, Addr.mk.injEq, and_true] at e9
                    obtain ⟨rfl, rfl⟩ := e9
                    rw [p10, HPG.out h])
                  subst e8
                  obtain ⟨z, hz⟩ : ∃ z, S[q] = z := ⟨_, rfl⟩
                  rw [hz] at d0 d1 d2 d3 d4 d5 d6 d7 d8 d9 d10 d11 ht1 ht2 hb0 hb2 hv0 hv1 HTV
                  clear hz HPC HPG
                  obtain ⟨T, r⟩ := z
                  simp only at d0 d1 d2 d3 d4 d5 d6 d7 d8 d9 d10 d11 ht1 ht2 hb0 hb2 hv0 hv1
                  have HVV : tuV off S q = (T - byOff off (prevS S q) r.b, r.sv, r.letter) := by unfold tuV; rw [HTV.out]
                  obtain ⟨s, hs⟩ : ∃ s, prevS S q = s := ⟨_, rfl⟩
                  have HS0 := Lib.hid (show q = 0 → s = 0 from fun h => by rw [← hs, prevS, if_pos h])
                  rw [hs] at HVV HSB HP0
                  clear hs
                  obtain ⟨A, hA⟩ : ∃ A, T - byOff off s r.b = A := ⟨_, rfl⟩
                  rw [hA] at HVV
                  have HAc := Lib.hid (show (r.b = 0 → A = T - off - s) ∧ (r.b ≠ 0 → A = if r.b < 2 then T - off else T) by
                    rw [← hA]; unfold byOff
                    constructor
                    · intro h; rw [if_pos h]; omega
                    · intro h; rw [if_neg h]
                      by_cases h1 : r.b = 1
                      · rw [if_pos h1, if_pos (by omega)]
                      · rw [if_neg h1, if_neg (by omega)]; omega)
                  have HLs := Lib.hid (show ((List.range (q + 1)).map (tuV off S)).map tuCells = ((List.range q).map (tuV off S)).map tuCells ++ [tuCells (A, r.sv, r.letter)] by rw [tuL_succ, List.map_append, HVV]; rfl)
                  have HLq : (((List.range q).map (tuV off S)).map tuCells).length = q := by simp
                  have HLx := Lib.hid (fun (h : 0 < q) => show (((List.range q).map (tuV off S)).map tuCells).flatten[(q - 1) * 3]? = some (.int .i64 (tuV off S (q - 1)).1) by
                    have h1 := flat_get (size := 3) (((List.range q).map (tuV off S)).map tuCells) (q - 1) 0 (tu_len3 _) (by simp; omega) (by omega)
                    rw [Nat.add_zero] at h1
                    rw [h1]
                    have h2 : q - 1 < q := by omega
                    simp [List.getD, h2, tuCells])
                  have HBX := Lib.hid (fun (h : 0 < q) (hle : A ≤ (tuV off S (q - 1)).1) => show tuBad off S q = true by unfold tuBad; rw [HVV]; simp only [decide_eq_true_eq]; exact ⟨h, hle⟩)
                  have HBN := Lib.hid (fun (h : ¬ (0 < q ∧ A ≤ (tuV off S (q - 1)).1)) => show tuBad off S q = false by unfold tuBad; rw [HVV]; simp only [decide_eq_false_iff_not]; exact h)
                  obtain ⟨P, hP⟩ : ∃ P, (tuV off S (q - 1)).1 = P := ⟨_, rfl⟩
                  rw [hP] at HBX HBN HLx
                  obtain ⟨L, hL⟩ : ∃ L, ((List.range q).map (tuV off S)).map tuCells = L := ⟨_, rfl⟩
                  rw [hL] at HO HLs HLq HLx
                  have HBD' := Lib.hid (fun (h : tuBad off S q = false) => show ∀ j, j < q + 1 → tuBad off S j = false from fun j hj => if e : j = q then (by rw [e]; exact h) else HBD.out j (by omega))
                  have HTE := Lib.hid (fun (h : tuBad off S q = true) => turn_bad (rs := rs) (nm := nm) (off := off) HNE.out HNB.out (i := q) (by rw [HSS.out, HM8.out]; exact hlt3) (by rw [HSS.out]; exact h))
                  have HLQ := Lib.hid HLq
                  have hw3 : IntKind.i64.wrap (T - off) = T - off := IntWalk.i64_in _ (by omega)
                  have HBB := Lib.hid (And.intro hb0 hb2)
                  have hb8' : b8 < wr.heap.size := by omega
                  clear hA hb0 hb2 hP hL HBD HVV HLq HTV
                  go_upto_region 31 with fail
                  have hV1 := (Below.refl wr.heap.size wr).alloc (Nat.le_refl _) (.cells (rwA T r) 84)
                  have HX := Lib.hid (Blk.new wr (rwA T r) 84)
                  replace HO := Lib.hid (own_step HO.out hV1)
                  replace HP0 := Lib.hid (fun (h : 0 < q) => (World.cell?_alloc_lt wr (.cells (rwA T r) 84) ⟨b8, o8 + (q - 1) * 12 + 10, none⟩ hb8').trans (HP0.out h))
                  replace HB := Lib.hid (HB.out.trans (hV1.mono hzB8))
                  have hbW : b8 < (wr.alloc (.cells (rwA T r) 84)).heap.size := by rw [size_alloc]; omega
                  clear hV1 d0 d1 d2 d3 d4 d5 d6 d7 d8 d9 d10 d11 hb8' hb8
                  obtain ⟨gx, hgx⟩ : ∃ gx, wr.heap.size = gx := ⟨_, rfl⟩
                  rw [hgx] at HX hzB8 ⊢
                  obtain ⟨W, hW⟩ : ∃ W, wr.alloc (.cells (rwA T r) 84) = W := ⟨_, rfl⟩
                  rw [hW] at HX HO HP0 HB hbW ⊢
                  clear hW hgx
                  have xc := HX.out.cell
                  have xl := HX.out.lt
                  replace hzB8 : B8 ≤ W.heap.size := by omega
                  go_upto_if 118 with fail
                  go_cut [23] from 113 to 162 (fun v wx => ∃ A1 : Int, v = .int .i64 A1 ∧ Hid (A1 = if r.b < 2 then T - off else T) ∧ wx = W)
                  case first =>
                    by_cases hb : r.b < 2
                    · go_wp2_with fail
                      go_meet
                      exact ⟨T - off, rfl, Lib.hid (by rw [if_pos hb]), rfl⟩
                    · go_wp2_with fail
                      go_meet
                      exact ⟨T, rfl, Lib.hid (by rw [if_neg (by omega)]), rfl⟩
                  case rest =>
                    obtain ⟨A1, hv, HA1, hwc⟩ := hcut
                    subst hv
                    have hwc2 := hwc.symm
                    clear hwc
                    subst hwc2
                    go_upto_region 33 with fail
                    go_cut [129] from 113 to 162 (fun v wx => ∃ gg : Bool, v = .bool gg ∧ Hid (gg = true ↔ (r.b = 0 ∧ 0 < q)) ∧ wx = W)
                    case first =>
                      by_cases h0 : r.b = 0
                      · have e0 : (r.b == 0) = true := by simp [h0]
                        by_cases h1 : 0 < q
                        · have h1' : (0 : Int) < (q : Int) := by omega
                          have HF := Lib.hid (show true = true ↔ (r.b = 0 ∧ 0 < q) by simp [h0, h1])
                          clear h0
                          go_wp2_with fail
                          go_meet
                          exact ⟨true, rfl, Lib.hid (by have h := HF.out; simpa using h), rfl⟩
                        · have hdk : decide ((0 : Int) < (q : Int)) = false := by simp; omega
                          have h1' : ¬ (0 : Int) < (q : Int) := by omega
                          have HF := Lib.hid (show false = true ↔ (r.b = 0 ∧ 0 < q) by simp [h1])
                          clear h0
                          go_wp2_with fail
                          go_meet
                          exact ⟨false, rfl, Lib.hid (by have h := HF.out; simpa using h), rfl⟩
                      · have e0 : (r.b == 0) = false := by simp [h0]
                        have HF := Lib.hid (show false = true ↔ (r.b = 0 ∧ 0 < q) by simp [h0])
                        clear h0
                        go_wp2_with fail
                        go_meet
                        exact ⟨false, rfl, Lib.hid (by have h := HF.out; simpa using h), rfl⟩
                    case rest =>
                      obtain ⟨gg, hv, HGG, hwc⟩ := hcut
                      subst hv
                      have hwc2 := hwc.symm
                      clear hwc
                      subst hwc2
                      go_upto_if 129 with fail
                      go_cut [23] from 113 to 162 (fun v wx => v = .int .i64 A ∧ wx = W)
                      case first =>
                        cases gg with
                        | true =>
                          obtain ⟨h0, h1⟩ := HGG.out.1 rfl
                          have p0 := HP0.out h1
                          have hi7 : (0 : Int) ≤ (q : Int) - 1 := by omega
                          have hi8 : (q : Int) - 1 < (M8 : Int) := by omega
                          have eA1 := HA1.out
                          rw [if_pos (by omega)] at eA1
                          have eA : A1 - s = A := by rw [HAc.out.1 h0, eA1]
                          have hw4 : IntKind.i64.wrap A = A := IntWalk.i64_in _ (by have := HSB.out; omega)
                          clear eA1 h0
                          go_wp2_with fail
                          go_meet
                          exact ⟨rfl, rfl⟩
                        | false =>
                          have eA : A1 = A := by
                            have hn : ¬ (r.b = 0 ∧ 0 < q) := fun h => by have := HGG.out.2 h; cases this
                            by_cases h0 : r.b = 0
                            · have hq0 : q = 0 := by omega
                              rw [HA1.out, HAc.out.1 h0, HS0.out hq0, if_pos (by omega)]; omega
                            · rw [HA1.out, HAc.out.2 h0]
                          subst eA
                          go_wp2_with fail
                          go_meet
                          exact ⟨rfl, rfl⟩
                      case rest =>
                        obtain ⟨hv, hwc⟩ := hcut
                        subst hv
                        have hwc2 := hwc.symm
                        clear hwc
                        subst hwc2
                        clear HA1 HAc HGG HP0 HS0 HSB hw3
                        by_cases hq0 : q = 0
                        · have HBD2 := Lib.hid (HBD'.out (HBN.out (by omega)))
                          have hdk : decide ((0 : Int) < (q : Int)) = false := by simp; omega
                          have hdk2 : ¬ 0 < q := by omega
                          have HLq := HLQ.out
                          go_wp2_with (at_builtin; refine wpList_append_lies _ rfl _ _ _ rfl B8 34 iT _ 3 32 Tryz.underlying27 hiT hy0 hy1 hy2 rfl (by omega) u20 L.length _ rfl (World.ownsRow.alloc HO.out _) ⟨W.heap.size, 0, none⟩ 1 1 [.int .i64 A, .int .i64 r.sv, .string r.letter] rfl rfl (World.news_of_block (cs := #[.int .i64 A, .int .i64 r.sv, .string r.letter]) (t := 34) (fr := (0, 0)) (heap_alloc_new W _)) (by simp [Value.oneCell']) (by omega) (by unfold maxLen; omega) (by omega) (by simp; omega) (W.heap.size + 1) (by simp) ?_; intro gg cap2 w6 hown1 hgrow hat hlt6)
                          have hoa := World.ownsRow.alloc HO.out (.cells #[.int .i64 A, .int .i64 r.sv, .string r.letter] 34)
                          exact ⟨⟨q + 1, by omega, by go_num, HBD2, Lib.hid (by rw [HLs.out]; simpa [HLq, hq0, tuCells] using hown1), Lib.hid ((HB.out.alloc hzB8 _).grown hgrow (by simp; omega) (fun k hk => (World.ownsRow.lt hoa k hk).1))⟩, by simp only [intOf]; omega⟩
                        · obtain ⟨gO, cO, rfl, hgO, hlO⟩ := World.ownsRow.form HO.out (by have := HLQ.out; omega)
                          have HLq := HLQ.out
                          have hi7 : (0 : Int) ≤ (q : Int) - 1 := by omega
                          have hi8 : (q : Int) - 1 < (L.length : Int) := by omega
                          have hi9 : 0 < q := by omega
                          have hi10 : (0 : Int) < (q : Int) := by omega
                          have p0 := (World.ownsRow.cellAt HO.out ((q - 1) * 3) (by omega)).trans (HLx.out hi9)
                          by_cases hpv : A ≤ P
                          · have HX2 := Lib.hid (HTE.out (HBX.out hi9 hpv))
                            go_wp2_with fail
                            go_ret2
                            exact tu_bad HX2.out (HE8.out.2 _ HB.out)
                          · have HBD2 := Lib.hid (HBD'.out (HBN.out (fun h => hpv h.2)))
                            go_wp2_with (at_builtin; refine wpList_append_lies _ rfl _ _ _ rfl B8 34 iT _ 3 32 Tryz.underlying27 hiT hy0 hy1 hy2 rfl (by omega) (.slice (some ⟨gO, 0, none⟩) L.length cO) L.length _ rfl (World.ownsRow.alloc HO.out _) ⟨W.heap.size, 0, none⟩ 1 1 [.int .i64 A, .int .i64 r.sv, .string r.letter] rfl rfl (World.news_of_block (cs := #[.int .i64 A, .int .i64 r.sv, .string r.letter]) (t := 34) (fr := (0, 0)) (heap_alloc_new W _)) (by simp [Value.oneCell']) (by omega) (by unfold maxLen; omega) (by omega) (by simp; omega) (W.heap.size + 1) (by simp) ?_; intro gg cap2 w6 hown1 hgrow hat hlt6)
                            have hoa := World.ownsRow.alloc HO.out (.cells #[.int .i64 A, .int .i64 r.sv, .string r.letter] 34)
                            exact ⟨⟨q + 1, by omega, by go_num, HBD2, Lib.hid (by rw [HLs.out]; simpa [HLq, tuCells] using hown1), Lib.hid ((HB.out.alloc hzB8 _).grown hgrow (by simp; omega) (fun k hk => (World.ownsRow.lt hoa k hk).1))⟩, by simp only [intOf]; omega⟩
                · obtain rfl : q = M8 := by omega
                  have HX := Lib.hid (turn_ok (rs := rs) (nm := nm) (off := off) HNE.out HNB.out (by rw [HSS.out]; intro i hi; exact HBD.out i (by rw [← HM8.out]; exact hi)))
                  go_wp2_with fail
                  go_ret2
                  refine ⟨u20, by rw [HX.out.1]; rfl, ?_, HE8.out.2 _ HB.out⟩
                  have h := World.ownsRow.mono HO.out HE8.out.1
                  rw [HX.out.2, HSS.out]
                  simp only [tuL, List.length_map, List.length_range, HM8.out] at h ⊢
                  exact h
end Go.Proofs.YtanaoohgpdcfjaaGreatDoor
