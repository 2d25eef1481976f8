/- The law RiteBooks holds at every input: Book returns what the reference returns. No condition. -/
import Derived.Test.YtgnodiegippkeaaLawKit
import Derived.Test.YtgnodiegippkeaaRbT
import Derived.Test.YtgnodiegippkeaaRbU
import Derived.Test.YtgnodiegippkeaaRbS
import Derived.Test.YtgnodiegippkeaaRbW
import Derived.Test.YtgnodiegippkeaaEqZ
import Derived.Deep.RegionHeld3
import Derived.Deep.DrawnRows
namespace Go.Proofs.Ytgnodiegippkeaa.riteBooks
open Go.ChangeShapes Go.WideShapes Go.ChangeAt Go.RowKit
set_option linter.unusedVariables false
attribute [local go_sem ↓] Go.wp_at_zero Go.wp_at_succ
/-- what both return where there is an error -/
def Bad (E : Int) (w : World) (e : Ending) (w' : World) : Prop := e = .returned (.tuple #[.agg #[.slice none 0 0, .slice none 0 0, .slice none 0 0], .int .i64 E]) ∧ Below w.heap.size w w'
/-- what both return where there is none -/
def Good (rs : List RuT) (nm : ByteArray) (er : ErT) (w : World) (e : Ending) (w' : World) : Prop :=
  ∃ A ca g cz E ce, e = .returned (.tuple #[.agg #[.slice A rs.length ca, .slice (some ⟨g, 0, none⟩) 1 cz, .slice none 0 0], .int .i64 0]) ∧ Below w.heap.size w w' ∧ BkOk w' rs nm er A ca g cz E ce
theorem words {name also : ByteArray} {off aoff m1 k1 d1 a1 m2 k2 d2 a2 : Int} (h : posE name off also aoff m1 k1 d1 a1 m2 k2 d2 a2 = 0) : name.size ≤ 8 ∧ also.size ≤ 8 := by
  have hs : posS name also = true := by
    cases hs : posS name also with
    | true => rfl
    | false => rw [pos_s hs] at h; omega
  obtain ⟨h1, h2⟩ := posS_iff.1 hs
  refine ⟨(word_size h1).2, ?_⟩
  rcases h2 with h2 | h2
  · omega
  · exact (word_size h2).2
theorem both (name also : ByteArray) (off aoff m1 k1 d1 a1 m2 k2 d2 a2 : Int) (nm : ByteArray) (fr to : Int) (hn : name.size ≤ maxLen) (hl : also.size ≤ maxLen) (hm : nm.size ≤ maxLen) :
    (∃ E : Int, (∀ w, Calls Try.prog 34 #[.agg #[.string name, .int .i64 off, .string also, .int .i64 aoff, .int .i64 m1, .int .i64 k1, .int .i64 d1, .int .i64 a1, .int .i64 m2, .int .i64 k2, .int .i64 d2, .int .i64 a2], .string nm, .int .i64 fr, .int .i64 to] w (Bad E w)) ∧ (∀ w, Calls Try.prog 35 #[.agg #[.string name, .int .i64 off, .string also, .int .i64 aoff, .int .i64 m1, .int .i64 k1, .int .i64 d1, .int .i64 a1, .int .i64 m2, .int .i64 k2, .int .i64 d2, .int .i64 a2], .string nm, .int .i64 fr, .int .i64 to] w (Bad E w))) ∨
    (∃ rs er, (∀ w, Calls Try.prog 34 #[.agg #[.string name, .int .i64 off, .string also, .int .i64 aoff, .int .i64 m1, .int .i64 k1, .int .i64 d1, .int .i64 a1, .int .i64 m2, .int .i64 k2, .int .i64 d2, .int .i64 a2], .string nm, .int .i64 fr, .int .i64 to] w (Good rs nm er w)) ∧ (∀ w, Calls Try.prog 35 #[.agg #[.string name, .int .i64 off, .string also, .int .i64 aoff, .int .i64 m1, .int .i64 k1, .int .i64 d1, .int .i64 a1, .int .i64 m2, .int .i64 k2, .int .i64 d2, .int .i64 a2], .string nm, .int .i64 fr, .int .i64 to] w (Good rs nm er w))) := by
  by_cases h : posE name off also aoff m1 k1 d1 a1 m2 k2 d2 a2 = 0
  · obtain ⟨s1, s2⟩ := words h
    cases h2 : isNameB nm.data.toList with
    | false => exact Or.inl ⟨_, fun w => i_Book_3 _ _ _ _ _ _ _ _ _ _ _ _ _ _ _ hn hl hm h h2 w, fun w => r_Book_3 _ _ _ _ _ _ _ _ _ _ _ _ _ _ _ hn hl hm h h2 w⟩
    | true =>
      by_cases h3 : 1900 ≤ fr ∧ fr ≤ 2100 ∧ fr ≤ to ∧ to ≤ 2100
      · by_cases h4 : also.size = 0
        · exact Or.inr ⟨[], ⟨off, ⟨#[]⟩, 0, name, 0⟩, fun w => i_Book_n _ _ _ _ _ _ _ _ _ _ _ _ _ _ _ hn hl hm h h2 h3 h4 s1 w, fun w => r_Book_n _ _ _ _ _ _ _ _ _ _ _ _ _ _ _ hn hl hm h h2 h3 h4 s1 w⟩
        · by_cases h5 : 12 < name.size + 1 + also.size
          · exact Or.inl ⟨_, fun w => i_Book_2 _ _ _ _ _ _ _ _ _ _ _ _ _ _ _ hn hl hm h h2 h3 (by omega) h5 s1 s2 w, fun w => r_Book_2 _ _ _ _ _ _ _ _ _ _ _ _ _ _ _ hn hl hm h h2 h3 (by omega) h5 s1 s2 w⟩
          · have hp := pos_facts h h4
            have r1 := riOk_iff.1 hp.2.2.1
            have r2 := riOk_iff.1 hp.2.2.2
            exact Or.inr ⟨[rbOne m1 k1 d1 a1 (aoff - off) fr to, rbOne m2 k2 d2 a2 0 fr to], (⟨off, RITE, 0, name ++ (⟨#[47]⟩ : ByteArray) ++ also, 0⟩ : ErT), fun w => (i_Book_s _ _ _ _ _ _ _ _ _ _ _ _ _ _ _ hn hl hm h h2 h3 (by omega) (by omega) s1 s2 ⟨r1.2.2.1, r1.2.2.2.1⟩ ⟨r2.2.2.1, r2.2.2.2.1⟩ hp.1 hp.2.1 w).mono fun _ _ h => h, fun w => (r_Book_s _ _ _ _ _ _ _ _ _ _ _ _ _ _ _ hn hl hm h h2 h3 (by omega) (by omega) s1 s2 ⟨r1.2.2.1, r1.2.2.2.1⟩ ⟨r2.2.2.1, r2.2.2.2.1⟩ hp.1 hp.2.1 w).mono fun _ _ h => h⟩
      · exact Or.inl ⟨_, fun w => i_Book_1 _ _ _ _ _ _ _ _ _ _ _ _ _ _ _ hn hl hm h h2 h3 w, fun w => r_Book_1 _ _ _ _ _ _ _ _ _ _ _ _ _ _ _ hn hl hm h h2 h3 w⟩
  · exact Or.inl ⟨_, fun w => i_Book_bad _ _ _ _ _ _ _ _ _ _ _ _ _ _ _ hn hl hm h w, fun w => r_Book_bad _ _ _ _ _ _ _ _ _ _ _ _ _ _ _ hn hl hm h w⟩
set_option maxRecDepth 100000 in
set_option maxHeartbeats 4000000 in
theorem walk (name : ByteArray) (off : Int) (also : ByteArray) (aoff m1 k1 d1 a1 m2 k2 d2 a2 : Int) (hn : name.size ≤ maxLen) (hl : also.size ≤ maxLen) (nm : ByteArray) (hm : nm.size ≤ maxLen) (fr to : Int) (w : World) :
    Calls Try.prog 10 #[.agg #[.string name, .int .i64 off, .string also, .int .i64 aoff, .int .i64 m1, .int .i64 k1, .int .i64 d1, .int .i64 a1, .int .i64 m2, .int .i64 k2, .int .i64 d2, .int .i64 a2], .string nm, .int .i64 fr, .int .i64 to] w fun e w' => e = .returned (.bool true) ∧ Below w.heap.size w w' := by
  have z0 : posE ⟨#[]⟩ 0 ⟨#[]⟩ 0 0 0 0 0 0 0 0 0 = 3 := by decide
  have hb0 : Below w.heap.size w (w.alloc (.cells #[.string name, .int .i64 off, .string also, .int .i64 aoff, .int .i64 m1, .int .i64 k1, .int .i64 d1, .int .i64 a1, .int .i64 m2, .int .i64 k2, .int .i64 d2, .int .i64 a2] 57)) := (by repeat (first | exact Below.refl _ _ | assumption | apply Below.drew | apply below_drewN | (refine Below.alloc ?_ (by simp; try omega) _) | (refine Below.setCell ?_ (by simp; try omega) _)))
  have X1 := Lib.hid (Bx.new w #[.string name, .int .i64 off, .string also, .int .i64 aoff, .int .i64 m1, .int .i64 k1, .int .i64 d1, .int .i64 a1, .int .i64 m2, .int .i64 k2, .int .i64 d2, .int .i64 a2] 57)
  rcases both name also off aoff m1 k1 d1 a1 m2 k2 d2 a2 nm fr to hn hl hm with ⟨E, hi, hr⟩ | ⟨rs, er, hi, hr⟩
  · have HI := Lib.hid hi
    have HR := Lib.hid hr
    clear hi hr
    go_enter Try.func10, Try.ntmps10
    go_wp2_with fail
    refine (HI.out _).mono ?_
    rintro e w1 ⟨rfl, hb⟩
    have x1 := X1.out.step hb
    have hb1 := hb0.trans (hb.mono hb0.size)
    have hcs := x1.1
    have hz := x1.2.2
    clear hb X1
    have hb2 := hb1.alloc (Nat.le_of_lt hz) (.cells #[.slice none 0 0, .slice none 0 0, .slice none 0 0] 64)
    have xa := Bx.new w1 #[.slice none 0 0, .slice none 0 0, .slice none 0 0] 64
    go_wp2_with fail
    refine (HR.out _).mono ?_
    rintro e w2 ⟨rfl, hb⟩
    have hb3 := hb2.trans (hb.mono hb2.size)
    have x2 := xa.step hb
    have hb4 := hb3.alloc hb3.size (.cells #[.slice none 0 0, .slice none 0 0, .slice none 0 0] 64)
    have xb := Bx.new w2 #[.slice none 0 0, .slice none 0 0, .slice none 0 0] 64
    have x2' := x2.alloc (.cells #[.slice none 0 0, .slice none 0 0, .slice none 0 0] 64)
    have h2 := x2'.1
    have h3 := xb.1
    clear hb hcs
    go_wp2_with fail
    refine (r_BookEq0 _).mono ?_
    rintro e w3 ⟨rfl, hb⟩
    have hb5 := hb4.trans (hb.mono hb4.size)
    clear hb h2 h3
    go_wp2_with (first | (go_at_call 32; refine (i_Check _ _ _ _ _ _ _ _ _ _ _ _ (by unfold maxLen; decide) (by unfold maxLen; decide) _).mono ?_; rintro e w4 ⟨rfl, hb⟩))
    go_ret
    exact ⟨ret_bool (by simp), hb5.trans (hb.mono hb5.size)⟩
  · have HI := Lib.hid hi
    have HR := Lib.hid hr
    clear hi hr
    go_enter Try.func10, Try.ntmps10
    go_wp2_with fail
    refine (HI.out _).mono ?_
    rintro e w1 ⟨A, ca, g, cz, E, ce, rfl, hb, bk⟩
    have x1 := X1.out.step hb
    have hb1 := hb0.trans (hb.mono hb0.size)
    have hcs := x1.1
    have hz := x1.2.2
    clear hb X1
    have hb2 := hb1.alloc (Nat.le_of_lt hz) (.cells #[.slice A rs.length ca, .slice (some ⟨g, 0, none⟩) 1 cz, .slice none 0 0] 64)
    have bk1 := Lib.hid (bk.step ((Below.refl _ _).alloc (Nat.le_refl _) (.cells #[.slice A rs.length ca, .slice (some ⟨g, 0, none⟩) 1 cz, .slice none 0 0] 64)))
    have xa := Bx.new w1 #[.slice A rs.length ca, .slice (some ⟨g, 0, none⟩) 1 cz, .slice none 0 0] 64
    clear bk
    go_wp2_with fail
    refine (HR.out _).mono ?_
    rintro e w2 ⟨A2, ca2, g2, cz2, E2, ce2, rfl, hb, bk⟩
    have hb3 := hb2.trans (hb.mono hb2.size)
    have x2 := xa.step hb
    have bk2 := (bk1.out.step hb).step ((Below.refl _ _).alloc (Nat.le_refl _) (.cells #[.slice A2 rs.length ca2, .slice (some ⟨g2, 0, none⟩) 1 cz2, .slice none 0 0] 64))
    have bk3 := bk.step ((Below.refl _ _).alloc (Nat.le_refl _) (.cells #[.slice A2 rs.length ca2, .slice (some ⟨g2, 0, none⟩) 1 cz2, .slice none 0 0] 64))
    have hb4 := hb3.alloc hb3.size (.cells #[.slice A2 rs.length ca2, .slice (some ⟨g2, 0, none⟩) 1 cz2, .slice none 0 0] 64)
    have xb := Bx.new w2 #[.slice A2 rs.length ca2, .slice (some ⟨g2, 0, none⟩) 1 cz2, .slice none 0 0] 64
    have x2' := x2.alloc (.cells #[.slice A2 rs.length ca2, .slice (some ⟨g2, 0, none⟩) 1 cz2, .slice none 0 0] 64)
    have h2 := x2'.1
    have h3 := xb.1
    obtain ⟨a1, a2, a3, a4, a5, a6, a7, a8, a9, a10, a11⟩ := bk2
    obtain ⟨b1, b2, b3, b4, b5, b6, b7, b8, b9, b10, b11⟩ := bk3
    have HE := Lib.hid (r_BookEq1 nm er rs A A2 E E2 g g2 ca ca2 cz cz2 ce ce2 _ a1 b1 a2 b2 a3 b3 a4 b4 a5 a6 b5 b6 a7 b7 a8 b8 a9 b9 a10 b10 a11 b11)
    clear hb hcs bk bk1 a1 b1 a2 b2 a3 b3 a4 b4 a5 a6 b5 b6 a7 b7 a8 b8 a9 b9 a10 b10 a11 b11
    go_wp2_with fail
    refine (show Calls Try.prog _ _ _ _ from HE.out).mono ?_
    rintro e w3 ⟨rfl, hb⟩
    have hb5 := hb4.trans (hb.mono hb4.size)
    clear hb h2 h3
    go_wp2_with (first | (go_at_call 32; refine (i_Check _ _ _ _ _ _ _ _ _ _ _ _ (by unfold maxLen; decide) (by unfold maxLen; decide) _).mono ?_; rintro e w4 ⟨rfl, hb⟩))
    go_ret
    exact ⟨ret_bool (by simp), hb5.trans (hb.mono hb5.size)⟩

set_option maxRecDepth 100000 in
theorem lifted (os : Os) (started : os.Started) (H : Type) (enc : TypeId × Value → H) :
    ReturnsInHanded {} Try.checked os 10 .any (Rows.riteBooksSpec.pre6 enc Try.prog Try.f10 Rows.riteBooksRow.domain false) (Rows.riteBooksSpec.post enc Try.prog Try.f10 false true false false) := by
  refine returnsInHanded_of_change (C := Try.checked) own started (by kernel_rfl) Try.func10
    (ChangeSpec.witness6 (enc := enc) (C := Try.checked) false ⟨#[], #[.agg #[.string ⟨#[]⟩, .int .i64 0, .string ⟨#[]⟩, .int .i64 0, .int .i64 0, .int .i64 0, .int .i64 0, .int .i64 0, .int .i64 0, .int .i64 0, .int .i64 0, .int .i64 0], .string ⟨#[]⟩, .int .i64 0, .int .i64 0], []⟩ 8 (by kernel_rfl) (by kernel_rfl) (by kernel_rfl) (by kernel_rfl)) ?_
  intro W base args ds gs before hval0 hW hcnd _
  have hval : ∀ (j : Nat) t v, Try.f10.params[j]? = some t → args[j]? = some v → Value.okWide Try.prog W .any base t v := hval0
  have hW' := hW
  have hltW : ∀ x ∈ before, x.block < W.heap.size := fun x hx => by simpa using hW.lt x hx
  obtain ⟨p, q, hA0, hV, rfl, hfz, hnd⟩ := hW
  have hlt : ∀ x ∈ p, x.block < W.heap.size := fun x hx => hltW x (by simp [hx])
  clear hltW
  have hA : DataW.TrodAll enc Try.prog W 0 (fun _ => true) true Try.f10.params.toList args.toList ds p := hA0
  rw [Try.params10] at hA hval
  obtain ⟨v0, vs0, d0, ds0, p0, q0, hargs, rfl, rfl, h0, r0⟩ := trodAll_cons hA
  obtain ⟨v1, vs1, d1, ds1, p1, q1, rfl, rfl, rfl, h1, r1⟩ := trodAll_cons r0
  obtain ⟨v2, vs2, d2, ds2, p2, q2, rfl, rfl, rfl, h2, r2⟩ := trodAll_cons r1
  obtain ⟨v3, vs3, d3, ds3, p3, q3, rfl, rfl, rfl, h3, r3⟩ := trodAll_cons r2
  obtain ⟨rfl, rfl, rfl⟩ := trodAll_nil r3
  obtain rfl : args = #[v0, v1, v2, v3] := by cases args; simp_all
  obtain ⟨rfl, rfl⟩ := trodVars_none hV
  obtain ⟨name0, off0, also0, aoff0, smo0, swe0, swd0, sa0, emo0, ewe0, ewd0, ea0, rfl, wi_off0, wi_aoff0, wi_smo0, wi_swe0, wi_swd0, wi_sa0, wi_emo0, wi_ewe0, wi_ewd0, wi_ea0, ws_name0, ws_also0⟩ := val_posix (hval 0 57 v0 rfl rfl) h0
  obtain ⟨a1, rfl, rfl, rfl, w1⟩ := Go.ChangeMaps.open_string Try.underlying9 (hval 1 9 v1 rfl rfl) h1
  obtain ⟨a2, rfl, rfl, rfl, w2⟩ := open_int Try.underlying3 (hval 2 3 v2 rfl rfl) h2
  obtain ⟨a3, rfl, rfl, rfl, w3⟩ := open_int Try.underlying3 (hval 3 3 v3 rfl rfl) h3
  clear hA0 hval0
  refine (walk name0 off0 also0 aoff0 smo0 swe0 swd0 sa0 emo0 ewe0 ewd0 ea0 ws_name0 ws_also0 a1 w1 a2 a3 W ).mono fun e W' ⟨he, hg⟩ => ?_
  subst he
  exact ⟨_, rfl, law_post rfl hW' rfl rfl rfl rfl (by rw [Try.params10]; decide +kernel) hg⟩

/-- the statement -/
theorem proved : Rows.RiteBooksSaid :=
  OpenClaim.holds_of_wide 10 Try.f10 rfl rfl rfl rfl rfl rfl rfl ⟨rfl, rfl, rfl, rfl, rfl⟩ rfl rfl rfl rfl rfl (by kernel_rfl) Try.func10 (by kernel_rfl)
    (of_decide_eq_true (by kernel_rfl)) (by unfold Func.isWrapper; first | (rw [if_pos (by decide +kernel)]; kernel_rfl) | (rw [if_neg (by decide +kernel)]; exact ⟨rfl, rfl⟩))
    (fun os started H enc _ => lifted os started H enc)
end Go.Proofs.Ytgnodiegippkeaa.riteBooks
