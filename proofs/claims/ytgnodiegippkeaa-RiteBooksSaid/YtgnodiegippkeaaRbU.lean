/- Walk of rite.Book, with summer. -/
import Derived.Test.YtgnodiegippkeaaRbA
import Derived.Test.YtgnodiegippkeaaRbQ
import Derived.Test.YtgnodiegippkeaaOwnSl
import Derived.Deep.DrawnRows
namespace Go.Proofs.Ytgnodiegippkeaa
open Go.RowKit
set_option linter.unusedVariables false
set_option maxRecDepth 100000 in
set_option maxHeartbeats 2000000 in
theorem i_Book_s (name also : ByteArray) (off aoff m1 k1 d1 a1 m2 k2 d2 a2 : Int) (nm : ByteArray) (fr to : Int) (hn : name.size ≤ maxLen) (hl : also.size ≤ maxLen) (hm : nm.size ≤ maxLen) (h : posE name off also aoff m1 k1 d1 a1 m2 k2 d2 a2 = 0) (h2 : isNameB nm.data.toList = true) (h3 : 1900 ≤ fr ∧ fr ≤ 2100 ∧ fr ≤ to ∧ to ≤ 2100) (h4 : 1 ≤ also.size) (h5 : name.size + 1 + also.size ≤ 12) (s1 : name.size ≤ 8) (s2 : also.size ≤ 8) (r1 : 1 ≤ k1 ∧ k1 ≤ 5) (r2 : 1 ≤ k2 ∧ k2 ≤ 5) (o1 : -64800 ≤ off ∧ off ≤ 64800) (o2 : off + 1 ≤ aoff ∧ aoff ≤ off + 10800) (w : World) :
    Calls Try.prog 34 #[.agg #[.string name, .int .i64 off, .string also, .int .i64 aoff, .int .i64 m1, .int .i64 k1, .int .i64 d1, .int .i64 a1, .int .i64 m2, .int .i64 k2, .int .i64 d2, .int .i64 a2], .string nm, .int .i64 fr, .int .i64 to] w fun e w' => ∃ A ca g cz E ce, e = .returned (.tuple #[.agg #[.slice A 2 ca, .slice (some ⟨g, 0, none⟩) 1 cz, .slice none 0 0], .int .i64 0]) ∧ Below w.heap.size w w' ∧ BkOk w' [rbOne m1 k1 d1 a1 (aoff - off) fr to, rbOne m2 k2 d2 a2 0 fr to] nm (⟨off, RITE, 0, name ++ ⟨#[47]⟩ ++ also, 0⟩) A ca g cz E ce := by
  obtain ⟨o1a, o1b⟩ := o1
  obtain ⟨o2a, o2b⟩ := o2
  obtain ⟨i0, hi0, hz0, hz1, hz2⟩ := info_parts info_Rule
  have HS := Lib.hid (R2.start w #[.string name, .int .i64 off, .string also, .int .i64 aoff, .int .i64 m1, .int .i64 k1, .int .i64 d1, .int .i64 a1, .int .i64 m2, .int .i64 k2, .int .i64 d2, .int .i64 a2] 57 64)
  have c1 : decide (1900 ≤ fr ∧ fr ≤ 2100) = true := by simp; omega
  have c2 : decide (fr ≤ to ∧ to ≤ 2100) = true := by simp; omega
  have q1 := ne_list h4
  have q2 := ne_isEmpty h4
  have HK1 := Lib.hid r1
  have HK2 := Lib.hid r2
  clear h3 h4 r1 r2
  go_enter Try.func34, Try.ntmps34
  go_wp2_with fail
  refine (i_Check _ _ _ _ _ _ _ _ _ _ _ _ hn hl _).mono ?_
  rintro e w1 ⟨rfl, hb⟩
  replace HS := Lib.hid (HS.out.step hb)
  clear hb
  have hcs := HS.out.1.1
  go_wp2_with fail
  refine (u_IsName _ hm _).mono ?_
  rintro e w2 ⟨rfl, rfl⟩
  have hz := HS.out.1.2.2
  have hr := HS.out.2.1.1
  have hfr := HS.out.2.1.2.1
  have hsz := HS.out.2.1.2.2
  have hB := HS.out.2.2
  go_wp2_with (first | (go_at_call 63; refine (i_within _ _ _ _).mono ?_; rintro e w' ⟨rfl, rfl⟩))
  have HQ : BQ w ((w1.alloc (.cells #[.int .i64 off, .string ⟨#[114, 105, 116, 101]⟩, .int .i64 0, .string (name ++ (⟨#[47]⟩ ++ also)), .int .i64 0] 103)).alloc (.cells #[.int .i64 m1, .int .i64 k1, .int .i64 d1, .int .i64 a1, .int .i64 m2, .int .i64 k2, .int .i64 d2, .int .i64 a2] 55)) #[.string name, .int .i64 off, .string also, .int .i64 aoff, .int .i64 m1, .int .i64 k1, .int .i64 d1, .int .i64 a1, .int .i64 m2, .int .i64 k2, .int .i64 d2, .int .i64 a2] #[.int .i64 off, .string ⟨#[114, 105, 116, 101]⟩, .int .i64 0, .string (name ++ (⟨#[47]⟩ ++ also)), .int .i64 0] #[.int .i64 m1, .int .i64 k1, .int .i64 d1, .int .i64 a1, .int .i64 m2, .int .i64 k2, .int .i64 d2, .int .i64 a2] w1.heap.size := by
    have e1 := Bx.new w1 #[.int .i64 off, .string ⟨#[114, 105, 116, 101]⟩, .int .i64 0, .string (name ++ (⟨#[47]⟩ ++ also)), .int .i64 0] 103
    have e2 := Bx.new' (w1.alloc (.cells #[.int .i64 off, .string ⟨#[114, 105, 116, 101]⟩, .int .i64 0, .string (name ++ (⟨#[47]⟩ ++ also)), .int .i64 0] 103)) #[.int .i64 m1, .int .i64 k1, .int .i64 d1, .int .i64 a1, .int .i64 m2, .int .i64 k2, .int .i64 d2, .int .i64 a2] 55 (n := w1.heap.size + 1) (by rw [size_alloc])
    exact ⟨hsz, (HS.out.1.alloc _).alloc _, (HS.out.2.1.alloc _).alloc _, e1.alloc _, e2, (hB.alloc (by omega) _).alloc (by rw [size_alloc]; omega) _⟩
  have HO := World.ownsRow_nil ((w1.alloc (.cells #[.int .i64 off, .string ⟨#[114, 105, 116, 101]⟩, .int .i64 0, .string (name ++ (⟨#[47]⟩ ++ also)), .int .i64 0] 103)).alloc (.cells #[.int .i64 m1, .int .i64 k1, .int .i64 d1, .int .i64 a1, .int .i64 m2, .int .i64 k2, .int .i64 d2, .int .i64 a2] 55)) (w1.heap.size + 2) 108 11
  clear hcs hz hr hfr hB HS
  go_loopw [12, 64] (fun v i wr => ∃ k : Nat, k ≤ 2 ∧ i = .int .i64 k ∧ BQ w wr #[.string name, .int .i64 off, .string also, .int .i64 aoff, .int .i64 m1, .int .i64 k1, .int .i64 d1, .int .i64 a1, .int .i64 m2, .int .i64 k2, .int .i64 d2, .int .i64 a2] #[.int .i64 off, .string ⟨#[114, 105, 116, 101]⟩, .int .i64 0, .string (name ++ (⟨#[47]⟩ ++ also)), .int .i64 0] #[.int .i64 m1, .int .i64 k1, .int .i64 d1, .int .i64 a1, .int .i64 m2, .int .i64 k2, .int .i64 d2, .int .i64 a2] w1.heap.size ∧ wr.ownsRow (w1.heap.size + 2) 108 11 v k (([rbOne m1 k1 d1 a1 (aoff - off) fr to, rbOne m2 k2 d2 a2 0 fr to].map ruC).take k).flatten) (fun v i _ => 2 - (intOf i).toNat)
  case atStart => exact ⟨0, by omega, rfl, HQ, HO⟩
  case round =>
    clear HQ HO
    obtain ⟨k, hk, rfl, HQ, HO⟩ := hrel
    have hlc := HQ.2.2.2.2.1.1
    have hk3 : k = 0 ∨ k = 1 ∨ k = 2 := by omega
    rcases hk3 with rfl | rfl | rfl
    · have hwx : IntKind.i64.wrap (aoff - off) = aoff - off := IntWalk.i64_in _ (by omega)
      have hw1 : IntKind.i64.wrap 1 = 1 := rfl
      have hw0 : IntKind.i64.wrap 0 = 0 := rfl
      have hown := HO.lt
      have hwr : wr.heap.size ≥ w1.heap.size + 2 := HQ.2.2.2.2.1.2.2
      go_wp2_with fail
      have hS := RQ.mk (HQ.alloc (.cells #[.int .i64 m1, .int .i64 k1, .int .i64 d1, .int .i64 a1] 55)) (Bx.new wr #[.int .i64 m1, .int .i64 k1, .int .i64 d1, .int .i64 a1] 55)
      have HO' := HO.alloc (.cells #[.int .i64 m1, .int .i64 k1, .int .i64 d1, .int .i64 a1] 55)
      go_region_held3 (fun w' => (∀ i, w'.cell? ⟨w.heap.size, i, none⟩ = (#[.string name, .int .i64 off, .string also, .int .i64 aoff, .int .i64 m1, .int .i64 k1, .int .i64 d1, .int .i64 a1, .int .i64 m2, .int .i64 k2, .int .i64 d2, .int .i64 a2] : Array Value)[i]?) ∧ (∀ i, w'.cell? ⟨w1.heap.size, i, none⟩ = (#[.int .i64 off, .string ⟨#[114, 105, 116, 101]⟩, .int .i64 0, .string (name ++ (⟨#[47]⟩ ++ also)), .int .i64 0] : Array Value)[i]?) ∧ (∀ i, w'.cell? ⟨wr.heap.size, i, none⟩ = (#[.int .i64 m1, .int .i64 k1, .int .i64 d1, .int .i64 a1] : Array Value)[i]?) ∧ BQ w w' #[.string name, .int .i64 off, .string also, .int .i64 aoff, .int .i64 m1, .int .i64 k1, .int .i64 d1, .int .i64 a1, .int .i64 m2, .int .i64 k2, .int .i64 d2, .int .i64 a2] #[.int .i64 off, .string ⟨#[114, 105, 116, 101]⟩, .int .i64 0, .string (name ++ (⟨#[47]⟩ ++ also)), .int .i64 0] #[.int .i64 m1, .int .i64 k1, .int .i64 d1, .int .i64 a1, .int .i64 m2, .int .i64 k2, .int .i64 d2, .int .i64 a2] w1.heap.size ∧ Bx wr.heap.size w' #[.int .i64 m1, .int .i64 k1, .int .i64 d1, .int .i64 a1])
        (first | exact RQ.drew hS | assumption | exact RQ.step (by assumption) (by assumption) | exact RQ.alloc (by assumption) _ | exact RQ.grown (by assumption) hgrow (fun k hk => ⟨(hown k hk).1, by have := (hown k hk).2; omega⟩))
        (first | (go_at_call 67; refine (i_dayOf _ _ _ _ HK1.out _).mono ?_; rintro e w5 ⟨rfl, hb5⟩) | (refine step_append_lies _ (by rfl) _ _ _ (by rfl) (w1.heap.size + 2) 108 i0 _ 11 104 Try.underlying60 hi0 hz0 hz1 hz2 rfl (by omega) u12 0 _ (by rfl) ((own_below HO'.drew hb5).alloc _) ⟨w5.heap.size, 0, none⟩ 1 1 (ruC (rbOne m1 k1 d1 a1 (aoff - off) fr to)) (by rfl) (by rfl) (World.news_of_block (cs := (ruC (rbOne m1 k1 d1 a1 (aoff - off) fr to)).toArray) (t := 108) (fr := (0, 0)) (heap_alloc_new w5 _)) (by simp [Value.oneCell', ruC]) (by omega) (by unfold maxLen; omega) (by omega) (by have h5s := hb5.size; simp at h5s ⊢; omega) (w5.heap.size + 1) (by simp) ?_; intro gg cap w6 hown1 hgrow hat hlt))
      rename_i hH
      go_wp2_with fail
      exact ⟨⟨1, by omega, by go_num, hH.2.2.2.1, by simpa using hown1⟩, by simp [intOf]⟩
    · have hwx : IntKind.i64.wrap (aoff - off) = aoff - off := IntWalk.i64_in _ (by omega)
      have hw1 : IntKind.i64.wrap 1 = 1 := rfl
      have hw0 : IntKind.i64.wrap 0 = 0 := rfl
      have hown := HO.lt
      have hwr : wr.heap.size ≥ w1.heap.size + 2 := HQ.2.2.2.2.1.2.2
      go_wp2_with fail
      have hS := RQ.mk (HQ.alloc (.cells #[.int .i64 m2, .int .i64 k2, .int .i64 d2, .int .i64 a2] 55)) (Bx.new wr #[.int .i64 m2, .int .i64 k2, .int .i64 d2, .int .i64 a2] 55)
      have HO' := HO.alloc (.cells #[.int .i64 m2, .int .i64 k2, .int .i64 d2, .int .i64 a2] 55)
      go_region_held3 (fun w' => (∀ i, w'.cell? ⟨w.heap.size, i, none⟩ = (#[.string name, .int .i64 off, .string also, .int .i64 aoff, .int .i64 m1, .int .i64 k1, .int .i64 d1, .int .i64 a1, .int .i64 m2, .int .i64 k2, .int .i64 d2, .int .i64 a2] : Array Value)[i]?) ∧ (∀ i, w'.cell? ⟨w1.heap.size, i, none⟩ = (#[.int .i64 off, .string ⟨#[114, 105, 116, 101]⟩, .int .i64 0, .string (name ++ (⟨#[47]⟩ ++ also)), .int .i64 0] : Array Value)[i]?) ∧ (∀ i, w'.cell? ⟨wr.heap.size, i, none⟩ = (#[.int .i64 m2, .int .i64 k2, .int .i64 d2, .int .i64 a2] : Array Value)[i]?) ∧ BQ w w' #[.string name, .int .i64 off, .string also, .int .i64 aoff, .int .i64 m1, .int .i64 k1, .int .i64 d1, .int .i64 a1, .int .i64 m2, .int .i64 k2, .int .i64 d2, .int .i64 a2] #[.int .i64 off, .string ⟨#[114, 105, 116, 101]⟩, .int .i64 0, .string (name ++ (⟨#[47]⟩ ++ also)), .int .i64 0] #[.int .i64 m1, .int .i64 k1, .int .i64 d1, .int .i64 a1, .int .i64 m2, .int .i64 k2, .int .i64 d2, .int .i64 a2] w1.heap.size ∧ Bx wr.heap.size w' #[.int .i64 m2, .int .i64 k2, .int .i64 d2, .int .i64 a2])
        (first | exact RQ.drew hS | assumption | exact RQ.step (by assumption) (by assumption) | exact RQ.alloc (by assumption) _ | exact RQ.grown (by assumption) hgrow (fun k hk => ⟨(hown k hk).1, by have := (hown k hk).2; omega⟩))
        (first | (go_at_call 67; refine (i_dayOf _ _ _ _ HK2.out _).mono ?_; rintro e w5 ⟨rfl, hb5⟩) | (refine step_append_lies _ (by rfl) _ _ _ (by rfl) (w1.heap.size + 2) 108 i0 _ 11 104 Try.underlying60 hi0 hz0 hz1 hz2 rfl (by omega) u12 1 _ (by rfl) ((own_below HO'.drew hb5).alloc _) ⟨w5.heap.size, 0, none⟩ 1 1 (ruC (rbOne m2 k2 d2 a2 0 fr to)) (by rfl) (by rfl) (World.news_of_block (cs := (ruC (rbOne m2 k2 d2 a2 0 fr to)).toArray) (t := 108) (fr := (0, 0)) (heap_alloc_new w5 _)) (by simp [Value.oneCell', ruC]) (by omega) (by unfold maxLen; omega) (by omega) (by have h5s := hb5.size; simp at h5s ⊢; omega) (w5.heap.size + 1) (by simp) ?_; intro gg cap w6 hown1 hgrow hat hlt))
      rename_i hH
      go_wp2_with fail
      exact ⟨⟨2, by omega, by go_num, hH.2.2.2.1, by simpa using hown1⟩, by simp [intOf]⟩
    · obtain ⟨g, cap, rfl, hg, hlt⟩ := HO.form (by omega)
      have hec := HQ.2.2.2.1.1
      have fc2 := (far2 HQ.2.2.1).1
      have fz2 := (far2 HQ.2.2.1).2
      have hsr := HQ.2.2.1.2.2
      go_wp2_with fail
      have hcc := HO.2
      have hca : 2 ≤ cap ∧ cap ≤ maxLen := by
        rcases HO.2 with ⟨h0, _⟩ | ⟨g', cap', cur, hv, _, _, q3, q4, _⟩
        · cases h0
        · cases hv; exact ⟨q3, q4⟩
      have hsl : SlAt wr wr.heap.size 11 (some ⟨g, 0, none⟩) ([rbOne m1 k1 d1 a1 (aoff - off) fr to, rbOne m2 k2 d2 a2 0 fr to].map ruC) := own_sl (n := 2) rfl (by simpa using HO) (by intro xs hx; simp [ruC] at hx; rcases hx with rfl | rfl <;> rfl) hlt
      obtain ⟨g1, g2, _, g5, gb⟩ := boxes2 wr #[.int .i64 off, .string ⟨#[114, 105, 116, 101]⟩, .int .i64 0, .string (name ++ (⟨#[47]⟩ ++ also)), .int .i64 0] #[.string nm, .slice (some ⟨wr.heap.size, 0, none⟩) 1 1] 103 111
      have hB := HQ.2.2.2.2.2
      have q := set3' (W := (wr.alloc (.cells #[.int .i64 off, .string ⟨#[114, 105, 116, 101]⟩, .int .i64 0, .string (name ++ (⟨#[47]⟩ ++ also)), .int .i64 0] 103)).alloc (.cells #[.string nm, .slice (some ⟨wr.heap.size, 0, none⟩) 1 1] 111)) (g := w.heap.size + 1) (x := .slice (some ⟨g, 0, none⟩) 2 cap) (y := .slice (some ⟨wr.heap.size + 1, 0, none⟩) 1 1) (z := .slice none 0 0) (fc2 _ _ 0) (fc2 _ _ 1) (fc2 _ _ 2)
      have hbw := below_set3 (b3 := w.heap.size + 1) (x := .slice (some ⟨g, 0, none⟩) 2 cap) (y := .slice (some ⟨wr.heap.size + 1, 0, none⟩) 1 1) (z := .slice none 0 0) (hB.trans (gb.mono hB.size)) (by omega)
      have hge : w.heap.size + 1 ≠ g := by omega
      have bk : BkOk (((((wr.alloc (.cells #[.int .i64 off, .string ⟨#[114, 105, 116, 101]⟩, .int .i64 0, .string (name ++ (⟨#[47]⟩ ++ also)), .int .i64 0] 103)).alloc (.cells #[.string nm, .slice (some ⟨wr.heap.size, 0, none⟩) 1 1] 111)).setCell ⟨w.heap.size + 1, 0, none⟩ (.slice (some ⟨g, 0, none⟩) 2 cap)).setCell ⟨w.heap.size + 1, 1, none⟩ (.slice (some ⟨wr.heap.size + 1, 0, none⟩) 1 1)).setCell ⟨w.heap.size + 1, 2, none⟩ (.slice none 0 0)) [rbOne m1 k1 d1 a1 (aoff - off) fr to, rbOne m2 k2 d2 a2 0 fr to] nm ⟨off, RITE, 0, name ++ ⟨#[47]⟩ ++ also, 0⟩ (some ⟨g, 0, none⟩) cap (wr.heap.size + 1) 1 (some ⟨wr.heap.size, 0, none⟩) 1 :=
        bk_set ((hsl.below gb).more (by omega)) (fun b o e => by cases e; exact hge) hca.1 hca.2 (by rw [g5]; omega) (by omega) (g2 0) (g2 1) (by rw [g5]; omega) (by omega) (fun j hj => (g1 j).trans (by simp [erC, RITE, ByteArray.append_assoc])) (by omega) (by unfold maxLen; omega) (by omega) (by unfold maxLen; omega)

      revert q hbw bk
      generalize ((((wr.alloc (.cells #[.int .i64 off, .string ⟨#[114, 105, 116, 101]⟩, .int .i64 0, .string (name ++ (⟨#[47]⟩ ++ also)), .int .i64 0] 103)).alloc (.cells #[.string nm, .slice (some ⟨wr.heap.size, 0, none⟩) 1 1] 111)).setCell ⟨w.heap.size + 1, 0, none⟩ (.slice (some ⟨g, 0, none⟩) 2 cap)).setCell ⟨w.heap.size + 1, 1, none⟩ (.slice (some ⟨wr.heap.size + 1, 0, none⟩) 1 1)).setCell ⟨w.heap.size + 1, 2, none⟩ (.slice none 0 0) = W'
      rintro ⟨q0, q1', q2'⟩ hbw bk
      refine bodyPost_ret (v := .tuple #[.agg #[.slice (some ⟨g, 0, none⟩) 2 cap, .slice (some ⟨wr.heap.size + 1, 0, none⟩) 1 1, .slice none 0 0], .int .i64 0]) (by simp [results, Try.results34, go_sem, q0, q1', q2']) rfl ⟨_, _, _, 1, _, 1, rfl, hbw, bk⟩
end Go.Proofs.Ytgnodiegippkeaa
