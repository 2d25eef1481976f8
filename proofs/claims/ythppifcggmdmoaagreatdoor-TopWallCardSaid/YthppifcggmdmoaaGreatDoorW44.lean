/- Part 44 of the proof of TopWall: no condition; what its declarations say stands at each. -/
import Derived.Test.YthppifcggmdmoaaGreatDoorW40
import Derived.Test.YthppifcggmdmoaaGreatDoorW43
import Derived.Test.YthppifcggmdmoaaGreatDoorW18
import Derived.Test.YthppifcggmdmoaaGreatDoorW33
import Derived.Test.YthppifcggmdmoaaGreatDoorW35
namespace Go.Proofs.YthppifcggmdmoaaGreatDoor
set_option linter.unusedVariables false
theorem tyIx_same {first : Int} {cs : List Ch} {s t : Int} (h : ∀ c ∈ cs, (c.1 ≤ s ↔ c.1 ≤ t)) : tyIx first cs s = tyIx first cs t := by
 have H : ∀ (l : List Ch) (k : Int), (∀ c ∈ l, (c.1 ≤ s ↔ c.1 ≤ t)) → l.foldl (fun k c => if c.1 ≤ s then c.2 else k) k = l.foldl (fun k c => if c.1 ≤ t then c.2 else k) k := by
  intro l
  induction l with
  | nil => intro k _; rfl
  | cons c r ih =>
   intro k hc
   simp only [List.foldl_cons]
   have h1 := hc c (by simp)
   by_cases h2 : c.1 ≤ s
   ·rw [if_pos h2, if_pos (h1.1 h2)]; exact ih _ fun d hd => hc d (by simp [hd])
   ·rw [if_neg h2, if_neg (fun h3 => h2 (h1.2 h3))]; exact ih _ fun d hd => hc d (by simp [hd])
 exact H cs first h
theorem offT_same {ts : List Ty} {first : Int} {cs : List Ch} {s t : Int} (h : ∀ c ∈ cs, (c.1 ≤ s ↔ c.1 ≤ t)) : offT ts first cs s = offT ts first cs t := by
 unfold offT tabOf
 rw [tyIx_same h]
end Go.Proofs.YthppifcggmdmoaaGreatDoor

namespace Go.Proofs.YthppifcggmdmoaaGreatDoor
set_option linter.unusedVariables false
theorem typesE_of : ∀ {ts : List Ty}, (∀ t ∈ ts, -75600 ≤ t.1 ∧ t.1 ≤ 75600 ∧ isAbbrB t.2.2.data.toList = true) → typesE ts = 0
 | [], _ => rfl
 | x :: r, h => by
  have h1 := h x (by simp)
  unfold typesE
  rw [if_neg (by simpa using ⟨h1.1, h1.2.1⟩), if_pos h1.2.2]
  exact typesE_of fun t ht => h t (by simp [ht])
theorem changesE_of {last : Int} : ∀ {cs : List Ch} {p : Option Int}, (∀ c ∈ cs, -1099511627776 ≤ c.1 ∧ c.1 ≤ 1099511627776 ∧ 0 ≤ c.2 ∧ c.2 ≤ last) → cs.Pairwise (fun a b => a.1 < b.1) → (∀ q, p = some q → ∀ c ∈ cs, q < c.1) → changesE last p cs = 0
 | [], _, _, _, _ => rfl
 | x :: r, p, h, hp, hq => by
  have h1 := h x (by simp)
  obtain ⟨p1, p2⟩ := List.pairwise_cons.1 hp
  unfold changesE
  rw [if_neg (by simpa using h1)]
  have hrec := changesE_of (p := some x.1) (fun c hc => h c (by simp [hc])) p2 (fun q e c hc => by injection e with e; rw [← e]; exact p1 c hc)
  cases p with
  | none =>
   show (if (false = true) then (5 : Int) else changesE last (some x.1) r) = 0
   rw [if_neg (by decide)]; exact hrec
  | some q =>
   have hlt := hq q rfl x (by simp)
   show (if decide (x.1 ≤ q) = true then (5 : Int) else changesE last (some x.1) r) = 0
   rw [if_neg (by simp; omega)]; exact hrec
theorem tabE_of {ts : List Ty} {first : Int} {cs : List Ch} (K : TabOk ts first cs) : tabE ts first cs = 0 := by
 have a1 := K.tpos; have a2 := K.tmax; have a3 := K.cmax; have a4 := K.first0; have a5 := K.first1
 rw [tabE_changes (by omega) (by omega) (typesE_of K.types) ⟨a4, by omega⟩]
 exact changesE_of (fun c hc => by have := K.range c hc; exact ⟨this.1, this.2.1, this.2.2.1, by omega⟩) K.sorted (fun q e => by cases e)
def nearB (cs : List Ch) (t : Int) : Bool := cs.any fun c => decide (t - 200000 < c.1 ∧ c.1 < t + 200000)
theorem near_step {cs : List Ch} {k : Nat} (h : k < cs.length) (t : Int) : nearB (cs.take (k + 1)) t = (nearB (cs.take k) t || decide (t - 200000 < cs[k].1 ∧ cs[k].1 < t + 200000)) := by
 unfold nearB
 rw [List.take_succ_eq_append_getElem h, List.any_append]
 simp
theorem find_has {ts : List Ty} {first : Int} {cs : List Ch} (K : TabOk ts first cs) {t : Int} (h1 : lowT ≤ t) (h2 : t < highT) : t ∈ findL (t + offT ts first cs t) (pcAll ts first cs) :=
 (findL_mem K _ _).2 ⟨⟨h1, h2⟩, rfl⟩
theorem find_one {ts : List Ty} {first : Int} {cs : List Ch} (K : TabOk ts first cs) {t : Int} (h1 : lowT ≤ t) (h2 : t < highT) (hn : nearB cs t = false) : (findL (t + offT ts first cs t) (pcAll ts first cs)).length = 1 := by
 have hno : ∀ c ∈ cs, ¬ (t - 200000 < c.1 ∧ c.1 < t + 200000) := fun c hc => by
  have h := List.any_eq_false.1 hn c hc
  simpa using h
 have hall : ∀ u ∈ findL (t + offT ts first cs t) (pcAll ts first cs), u = t := fun u hu => by
  have h3 := ((findL_mem K _ _).1 hu).2
  have r1 := offT_range K u
  have r2 := offT_range K t
  have e : offT ts first cs u = offT ts first cs t := offT_same fun c hc => by
   have := hno c hc
   omega
  omega
 have hm := find_has K h1 h2
 have hr := findL_rise K (t + offT ts first cs t)
 cases e : findL (t + offT ts first cs t) (pcAll ts first cs) with
 | nil => rw [e] at hm; cases hm
 | cons a r =>
  cases r with
  | nil => rfl
  | cons b r =>
   exfalso
   rw [e] at hall hr
   have ha := hall a (by simp)
   have hb := hall b (by simp)
   have := (List.pairwise_cons.1 hr).1 b (by simp)
   omega
end Go.Proofs.YthppifcggmdmoaaGreatDoor

namespace Go.Proofs.YthppifcggmdmoaaGreatDoor
open Go.RowKit
set_option linter.unusedVariables false
set_option maxHeartbeats 1000000 in
theorem rest_M (n m : Int) (h1 : -9223372036854775808 ≤ n) (h2 : n ≤ 9223372036854775807) (hm : 0 < m) (hm2 : m ≤ 4611686018427387904) (w : World) :
  Calls Tryz.prog 12 #[.int .i64 n, .int .i64 m] w fun e w' => e = .returned (.int .i64 (n % m)) ∧ w = w' := by
 obtain ⟨q, t1, t2, t3, t4, t5⟩ := tmod_fact' n m hm
 obtain ⟨t, ht⟩ : ∃ t, n.tmod m = t := ⟨_, rfl⟩
 rw [ht] at t1 t2 t3 t4 t5
 have hm0 : ¬ m = 0 := by omega
 have hm1 : ¬ m = -1 := by omega
 have hwt : IntKind.i64.wrap t = t := IntWalk.i64_in _ (by omega)
 by_cases hc : t < 0
 ·have HV : Hid (n % m = t + m) := Lib.hid (by
   have e : n = (t + m) + m * (q - 1) := by rw [t1, Int.mul_sub]; omega
   rw [e, Int.add_mul_emod_self_left, Int.emod_eq_of_lt (by omega) (by omega)])
  rw [HV.out]
  have hn : n < 0 := by by_cases hx : n < 0; exact hx; have := t4 (by omega); omega
  have hwt2 : IntKind.i64.wrap (t + m) = t + m := IntWalk.i64_in _ (by omega)
  clear HV t1 t4 t5
  go_enter Tryz.func12, Tryz.ntmps12
  go_wp2
  go_ret
  exact ⟨rfl, rfl⟩
 ·have HV : Hid (n % m = t) := Lib.hid (by
   have e : n = t + m * q := by rw [t1]; omega
   rw [e, Int.add_mul_emod_self_left, Int.emod_eq_of_lt (by omega) (by omega)])
  rw [HV.out]
  clear HV t1 t4 t5
  go_enter Tryz.func12, Tryz.ntmps12
  go_wp2
  go_ret
  exact ⟨rfl, rfl⟩
end Go.Proofs.YthppifcggmdmoaaGreatDoor

namespace Go.Proofs.YthppifcggmdmoaaGreatDoor
open Go.RowKit
set_option linter.unusedVariables false
set_option linter.unusedSimpArgs false
attribute [local go_sem ↓] Go.wp_at_zero Go.wp_at_succ
def IsW (a b : World) : Prop := a = b
def spF (from_ : Int) : Int := from_ % 25056000000 - 11676096000
def spT (from_ long : Int) : Int := spF from_ + 1 + long % 70000000
theorem sp_bd (from_ long : Int) : -11676096000 ≤ spF from_ ∧ spF from_ < 13379904000 ∧ spF from_ < spT from_ long ∧ spT from_ long ≤ 13449904000 := by
 unfold spT spF; omega
set_option maxRecDepth 100000 in
set_option maxHeartbeats 4000000 in
theorem t_span' (fr long F T : Int) (HF : Hid (fr % 25056000000 - 11676096000 = F)) (HU : Hid (F + 1 + long % 70000000 = T)) (a1 : -9223372036854775808 ≤ fr) (a2 : fr ≤ 9223372036854775807) (b1 : -9223372036854775808 ≤ long) (b2 : long ≤ 9223372036854775807) (w : World) :
  Calls Tryz.prog 14 #[.int .i64 fr, .int .i64 long] w fun e w' => e = .returned (.agg #[.int .i64 F, .int .i64 T]) ∧ Below w.heap.size w w' := by
 have hb1 := (Below.refl w.heap.size w).alloc (Nat.le_refl _) (.cells #[.int .i64 0, .int .i64 0] 47)
 have k1 := Blk.new w #[.int .i64 0, .int .i64 0] 47
 obtain ⟨V, hV⟩ : ∃ V, w.alloc (.cells #[.int .i64 0, .int .i64 0] 47) = V := ⟨_, rfl⟩
 rw [hV] at hb1 k1
 have HB := Lib.hid hb1
 have HT := Lib.hid k1
 have HR1 := Lib.hid (fun (W : World) => rest_M fr 25056000000 a1 a2 (by omega) (by omega) W)
 have HR2 := Lib.hid (fun (W : World) => rest_M long 70000000 b1 b2 (by omega) (by omega) W)
 have HD := Lib.hid (fun (W : World) => r_Days_yes 1600 1 1 (by decide) W)
 rw [show daysN 1600 1 1 = -135140 by kernel_rfl] at HD
 clear hb1 k1 a1 a2 b1 b2
 go_enter Tryz.func14, Tryz.ntmps14
 go_wp2_with fail
 clear hV
 refine (HD.out _).mono ?_
 rintro e w1 ⟨rfl, hb⟩
 replace HT := Lib.hid (HT.out.step hb)
 replace HB := Lib.hid (HB.out.trans (hb.mono HB.out.size))
 clear hb HD
 go_wp2_with fail
 refine (HR1.out _).mono ?_
 rintro e w2 ⟨rfl, rfl⟩
 obtain ⟨r1, hr1⟩ : ∃ r, fr % 25056000000 = r := ⟨_, rfl⟩
 have hr2 : 0 ≤ r1 ∧ r1 < 25056000000 := by omega
 obtain ⟨hr2, hr3⟩ := hr2
 rw [hr1] at HF ⊢
 clear hr1 HR1
 obtain ⟨r2, hs1⟩ : ∃ r, long % 70000000 = r := ⟨_, rfl⟩
 have hs2 : 0 ≤ r2 ∧ r2 < 70000000 := by omega
 obtain ⟨hs2, hs3⟩ := hs2
 rw [hs1] at HU HR2
 clear hs1
 have hF1 : r1 + -11676096000 = F := by have := HF.out; omega
 have hwF : IntKind.i64.wrap F = F := IntWalk.i64_in _ (by omega)
 have hF2 : -11676096000 ≤ F ∧ F < 13379904000 := by omega
 obtain ⟨hF2, hF3⟩ := hF2
 have hv := (Below.refl w1.heap.size w1).alloc (Nat.le_refl _) (.cells #[.int .i64 F, .int .i64 0] 47)
 have HNe := Lib.hid HT.out.lt
 have HX := Lib.hid (Blk.new w1 #[.int .i64 F, .int .i64 0] 47)
 replace HT := Lib.hid (HT.out.step hv)
 replace HB := Lib.hid (HB.out.trans (hv.mono HB.out.size))
 clear hv
 go_upto_region 3 with fail
 obtain ⟨V2, hV2⟩ : ∃ V, w1.alloc (.cells #[.int .i64 F, .int .i64 0] 47) = V := ⟨_, rfl⟩
 obtain ⟨X, hXe⟩ : ∃ X, w1.heap.size = X := ⟨_, rfl⟩
 rw [hV2] at HX HT HB ⊢
 rw [hXe] at HX HNe ⊢
 clear hV2 hXe
 have hwG : IntKind.i64.wrap (F + 1) = F + 1 := IntWalk.i64_in _ (by omega)
 have hwT : IntKind.i64.wrap (F + 1 + r2) = F + 1 + r2 := IntWalk.i64_in _ (by omega)
 have HC := Lib.hid (fun (W' : World) (h : IsW W' V2.drew ∨ IsW W' (V2.drew.setCell ⟨X, 1, none⟩ (.int .i64 T))) => (show W'.cell? ⟨X, 0, none⟩ = some (.int .i64 F) ∧ X < W'.heap.size from by
  rcases h with h | h
  ·have e : W' = V2.drew := h
   rw [e]; exact ⟨HX.out.drew.cell 0, HX.out.drew.lt⟩
  ·have e : W' = V2.drew.setCell ⟨X, 1, none⟩ (.int .i64 T) := h
   rw [e]; exact ⟨(HX.out.drew.set 1 _).cell 0, (HX.out.drew.set 1 _).lt⟩))
 refine wp_region_noPanic ?_
 refine wp_region_held_drew (S := fun W' : World => IsW W' V2.drew ∨ IsW W' (V2.drew.setCell ⟨X, 1, none⟩ (.int .i64 T))) (by kernel_rfl) (Or.inl (show IsW _ _ from rfl)) (fun hHeld0 => ?_)
 have hHeld := hHeld0
 clear hHeld0
 refine wpAnyH_take (i := 0) (v := ?_) rfl (by kernel_rfl) (by kernel_rfl) (by kernel_rfl) (fun _ _ _ h => h) (Or.inl ⟨by rfl, ?_⟩) hHeld ?_
 rotate_left
 ·intro wq hSw
  go_simp
  try with_reducible rfl
 try simp only [Act.put, List.getElem_toArray, List.getElem_cons_succ, List.getElem_cons_zero, List.setIfInBounds_toArray, List.set_cons_zero, List.set_cons_succ]
 refine wpAnyH_take (i := 1) (v := ?_) rfl (by kernel_rfl) (by kernel_rfl) (by kernel_rfl) (fun _ _ _ h => h) (Or.inl ⟨by rfl, ?_⟩) hHeld ?_
 rotate_left
 ·intro wq hSw
  have xc := (HC.out wq hSw).1
  have xl := (HC.out wq hSw).2
  go_simp
  try with_reducible rfl
 try simp only [Act.put, List.getElem_toArray, List.getElem_cons_succ, List.getElem_cons_zero, List.setIfInBounds_toArray, List.set_cons_zero, List.set_cons_succ]
 refine wpAnyH_take (i := 2) (v := ?_) rfl (by kernel_rfl) (by kernel_rfl) (by kernel_rfl) (fun _ _ _ h => h) (Or.inl ⟨by rfl, ?_⟩) hHeld ?_
 rotate_left
 ·intro wq hSw
  go_simp
  try with_reducible rfl
 try simp only [Act.put, List.getElem_toArray, List.getElem_cons_succ, List.getElem_cons_zero, List.setIfInBounds_toArray, List.set_cons_zero, List.set_cons_succ]
 refine wpAnyH_take (i := 3) (v := ?_) rfl (by kernel_rfl) (by kernel_rfl) (by kernel_rfl) (fun _ _ _ h => h) (Or.inl ⟨by rfl, ?_⟩) hHeld ?_
 rotate_left
 ·intro wq hSw
  go_simp
  try with_reducible rfl
 try simp only [Act.put, List.getElem_toArray, List.getElem_cons_succ, List.getElem_cons_zero, List.setIfInBounds_toArray, List.set_cons_zero, List.set_cons_succ]
 refine wpAnyH_ready (rs := [4]) (by kernel_rfl) (by simp) ?_
 refine AllReadyH.cons rfl (fun K hK => ?_) AllReadyH.nil
 go_simp
 go_at_call 12
 refine (HR2.out _).mono ?_
 rintro e w8 ⟨rfl, rfl⟩
 try go_wp2_with fail
 refine hK.out _ _ (Or.inl (show IsW _ _ from rfl)) (fun hHeld2 => ?_)
 clear hK K hHeld2
 try simp only [Act.put, List.getElem_toArray, List.getElem_cons_succ, List.getElem_cons_zero, List.setIfInBounds_toArray, List.set_cons_zero, List.set_cons_succ]
 refine wpAnyH_take (i := 5) (v := ?_) rfl (by kernel_rfl) (by kernel_rfl) (by kernel_rfl) (fun _ _ _ h => h) (Or.inl ⟨by rfl, ?_⟩) hHeld ?_
 rotate_left
 ·intro wq hSw
  go_simp
  try with_reducible rfl
 try simp only [Act.put, List.getElem_toArray, List.getElem_cons_succ, List.getElem_cons_zero, List.setIfInBounds_toArray, List.set_cons_zero, List.set_cons_succ]
 refine wpAnyH_take (i := 6) (v := ?_) rfl (by kernel_rfl) (by kernel_rfl) (by kernel_rfl) (fun _ _ _ h => h) (Or.inl ⟨by rfl, ?_⟩) hHeld ?_
 rotate_left
 ·intro wq hSw
  go_simp
  try with_reducible rfl
 try simp only [Act.put, List.getElem_toArray, List.getElem_cons_succ, List.getElem_cons_zero, List.setIfInBounds_toArray, List.set_cons_zero, List.set_cons_succ]
 refine wpAnyH_ready (rs := [7]) (by kernel_rfl) (by simp) ?_
 refine AllReadyH.cons rfl (fun K hK => ?_) AllReadyH.nil
 have q1 := HX.out.drew.cell
 have q2 := HX.out.drew.frz
 have q3 := HX.out.drew.lt
 go_simp
 refine hK.out _ _ (Or.inr (show IsW _ _ from by rw [HU.out]; rfl)) (fun hHeld2 => ?_)
 clear hK K hHeld2 q1 q2 q3 hHeld HC
 try simp only [Act.put, List.getElem_toArray, List.getElem_cons_succ, List.getElem_cons_zero, List.setIfInBounds_toArray, List.set_cons_zero, List.set_cons_succ]
 refine wpAnyH_done (by kernel_rfl) ?_ _
 refine NoPanic.normal ?_
 rw [HU.out]
 have HX2 := Lib.hid (show Blk (V2.setCell ⟨X, 1, none⟩ (.int .i64 T)).drew X 47 #[.int .i64 F, .int .i64 T] from (HX.out.set 1 (.int .i64 T)).drew)
 have HT2 := Lib.hid (HT.out.far (a := ⟨X, 1, none⟩) (Nat.ne_of_lt HNe.out) (.int .i64 T)).drew
 have HB2 := Lib.hid (Below.setCell (p := ⟨X, 1, none⟩) HB.out (Nat.le_of_lt HNe.out) (.int .i64 T)).drew
 obtain ⟨V3, hV3⟩ : ∃ V, (V2.setCell ⟨X, 1, none⟩ (.int .i64 T)).drew = V := ⟨_, rfl⟩
 rw [hV3] at HX2 HT2 HB2 ⊢
 clear hV3 HX HT HB
 have xc := HX2.out.cell
 have xl := HX2.out.lt
 have tc := HT2.out.cell
 have tl := HT2.out.lt
 have tr := HT2.out.frz
 go_wp2_with fail
 have HF := Lib.hid (blk2 HT2.out (x := .int .i64 F) (y := .int .i64 T))
 have HBF := Lib.hid (show Below w.heap.size w ((V3.setCell ⟨w.heap.size, 0, none⟩ (.int .i64 F)).setCell ⟨w.heap.size, 1, none⟩ (.int .i64 T)) from Below.setCell (p := ⟨w.heap.size, 1, none⟩) (Below.setCell (p := ⟨w.heap.size, 0, none⟩) HB2.out (Nat.le_refl _) _) (Nat.le_refl _) _)
 obtain ⟨U, hU⟩ : ∃ U, (V3.setCell ⟨w.heap.size, 0, none⟩ (.int .i64 F)).setCell ⟨w.heap.size, 1, none⟩ (.int .i64 T) = U := ⟨_, rfl⟩
 rw [hU] at HF HBF
 try rw [hU]
 have hf := HF.out.cell
 exact bodyPost_ret (v := .agg #[.int .i64 F, .int .i64 T]) (by simp [results, Tryz.results14, go_sem, hf]) rfl ⟨rfl, HBF.out⟩
theorem t_span (fr long : Int) (a1 : -9223372036854775808 ≤ fr) (a2 : fr ≤ 9223372036854775807) (b1 : -9223372036854775808 ≤ long) (b2 : long ≤ 9223372036854775807) (w : World) :
  Calls Tryz.prog 14 #[.int .i64 fr, .int .i64 long] w fun e w' => e = .returned (.agg #[.int .i64 (spF fr), .int .i64 (spT fr long)]) ∧ Below w.heap.size w w' :=
 t_span' fr long _ _ (Lib.hid rfl) (Lib.hid rfl) a1 a2 b1 b2 w
end Go.Proofs.YthppifcggmdmoaaGreatDoor

