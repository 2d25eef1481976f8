/- The law PackParses holds at every input: Parse returns what the reference returns. No condition. -/
import Derived.Test.YtcoapllgpjjbcaaLawKit
import Derived.Test.YtcoapllgpjjbcaaOpenBy
import Derived.Test.YtcoapllgpjjbcaaPqC
import Derived.Test.YtcoapllgpjjbcaaPqR
import Derived.Test.YtcoapllgpjjbcaaTabEq
namespace Go.Proofs.Ytcoapllgpjjbcaa.packParses
open Go.ChangeShapes Go.WideShapes Go.ChangeAt Go.RowKit
set_option linter.unusedVariables false
attribute [local go_sem ↓] Go.wp_at_zero Go.wp_at_succ
set_option maxRecDepth 100000 in
set_option maxHeartbeats 4000000 in
theorem walk (A : Option Addr) (cap : Nat) (bs : List Int) (w : World) (hS : SlAt w w.heap.size 1 A (bs.map byCells)) (h1 : bs.length ≤ cap) (h2 : cap ≤ maxLen) (hb : Byt bs) :
    Calls Try.prog 4 #[.slice A bs.length cap] w fun e w' => e = .returned (.bool true) ∧ Below w.heap.size w w' := by
  go_enter Try.func4, Try.ntmps4
  go_wp2_with fail
  refine (p_Parse A cap bs w hS hb h1 h2).mono ?_
  rintro e w1 ⟨A1, C1, cT1, cC1, rfl, HT1, hb1⟩
  obtain ⟨ts, hts⟩ : ∃ x, (paV bs).1 = x := ⟨_, rfl⟩
  obtain ⟨f, hf⟩ : ∃ x, (paV bs).2.1 = x := ⟨_, rfl⟩
  obtain ⟨cs, hcs⟩ : ∃ x, (paV bs).2.2 = x := ⟨_, rfl⟩
  obtain ⟨n, hn⟩ : ∃ x, paE bs = x := ⟨_, rfl⟩
  rw [hts, hcs] at HT1
  have HTS := Lib.hid hts
  have HF := Lib.hid hf
  have HCS := Lib.hid hcs
  have HN := Lib.hid hn
  rw [hts, hf, hcs, hn]
  clear hts hf hcs hn
  have X1 := Bx.new w1 #[.slice A1 ts.length cT1, .int .i64 f, .slice C1 cs.length cC1] 25
  have H1 := Lib.hid (HT1.below ((Below.refl _ _).alloc (Nat.le_refl _) (.cells #[.slice A1 ts.length cT1, .int .i64 f, .slice C1 cs.length cC1] 25)))
  have hb2 := hb1.alloc hb1.size (.cells #[.slice A1 ts.length cT1, .int .i64 f, .slice C1 cs.length cC1] 25)
  clear HT1
  go_wp2_with fail
  refine (r_Parse A cap bs _ ((hS.below hb2).more hb2.size) hb h1 h2).mono ?_
  rintro e w2 ⟨A2, C2, cT2, cC2, rfl, HT2, hb⟩
  rw [HTS.out, HCS.out] at HT2
  rw [HTS.out, HF.out, HCS.out, HN.out]
  have X2 := (X1.step hb).alloc (.cells #[.slice A2 ts.length cT2, .int .i64 f, .slice C2 cs.length cC2] 25)
  have Y2 := Bx.new w2 #[.slice A2 ts.length cT2, .int .i64 f, .slice C2 cs.length cC2] 25
  have H2 := Lib.hid (HT2.below ((Below.refl _ _).alloc (Nat.le_refl _) (.cells #[.slice A2 ts.length cT2, .int .i64 f, .slice C2 cs.length cC2] 25)))
  have H1b := Lib.hid ((H1.out.below hb).below ((Below.refl _ _).alloc (Nat.le_refl _) (.cells #[.slice A2 ts.length cT2, .int .i64 f, .slice C2 cs.length cC2] 25)))
  have hb3 := (hb2.trans (hb.mono hb2.size))
  have hb4 := hb3.alloc hb3.size (.cells #[.slice A2 ts.length cT2, .int .i64 f, .slice C2 cs.length cC2] 25)
  clear HT2 hb hb3 X1 H1 hb2
  go_wp2_with fail
  refine (p_Parse_nil _).mono ?_
  rintro e w3 ⟨rfl, hb⟩
  have X3 := ((X2.step hb).alloc (.cells #[.slice none 0 0, .int .i64 0, .slice none 0 0] 25)).1
  have Y3 := ((Y2.step hb).alloc (.cells #[.slice none 0 0, .int .i64 0, .slice none 0 0] 25)).1
  have X3l := (X2.step hb).2.2
  have Y3l := (Y2.step hb).2.2
  have H1c := Lib.hid ((H1b.out.below hb).below ((Below.refl _ _).alloc (Nat.le_refl _) (.cells #[.slice none 0 0, .int .i64 0, .slice none 0 0] 25)))
  have H2c := Lib.hid ((H2.out.below hb).below ((Below.refl _ _).alloc (Nat.le_refl _) (.cells #[.slice none 0 0, .int .i64 0, .slice none 0 0] 25)))
  have hb5 := (hb4.trans (hb.mono hb4.size))
  have hb6 := Lib.hid (hb5.alloc hb5.size (.cells #[.slice none 0 0, .int .i64 0, .slice none 0 0] 25))
  have X3o := (X2.step hb).1
  have Y3o := (Y2.step hb).1
  clear hb hb4 hb5 X2 Y2 H1b H2
  go_wp2_with fail
  refine (r_TableEq A1 C1 A2 C2 cT1 cC1 cT2 cC2 ts f cs _ H1c.out H2c.out).mono ?_
  rintro e w4 ⟨rfl, hb⟩
  go_wp2_with fail
  go_ret
  exact ⟨ret_bool (by simp), hb6.out.trans (hb.mono hb6.out.size)⟩

set_option maxRecDepth 100000 in
theorem lifted (os : Os) (started : os.Started) (H : Type) (enc : TypeId × Value → H) :
    ReturnsInHanded {} Try.checked os 4 .any (Rows.packParsesSpec.pre6 enc Try.prog Try.f4 Rows.packParsesRow.domain false) (Rows.packParsesSpec.post enc Try.prog Try.f4 false true false false) := by
  refine returnsInHanded_of_change (C := Try.checked) own started (by kernel_rfl) Try.func4
    (ChangeSpec.witness6 (enc := enc) (C := Try.checked) false ⟨#[], #[.slice none 0 0], []⟩ 8 (by kernel_rfl) (by kernel_rfl) (by kernel_rfl) (by kernel_rfl)) ?_
  intro W base args ds gs before hval0 hW hcnd _
  have hval : ∀ (j : Nat) t v, Try.f4.params[j]? = some t → args[j]? = some v → Value.okWide Try.prog W .any base t v := hval0
  have hW' := hW
  have hltW : ∀ x ∈ before, x.block < W.heap.size := fun x hx => by simpa using hW.lt x hx
  obtain ⟨p, q, hA0, hV, rfl, hfz, hnd⟩ := hW
  have hlt : ∀ x ∈ p, x.block < W.heap.size := fun x hx => hltW x (by simp [hx])
  clear hltW
  have hA : DataW.TrodAll enc Try.prog W 0 (fun _ => true) true Try.f4.params.toList args.toList ds p := hA0
  rw [Try.params4] at hA hval
  obtain ⟨v0, vs0, d0, ds0, p0, q0, hargs, rfl, rfl, h0, r0⟩ := trodAll_cons hA
  obtain ⟨rfl, rfl, rfl⟩ := trodAll_nil r0
  obtain rfl : args = #[v0] := by cases args; simp_all
  obtain ⟨rfl, rfl⟩ := trodVars_none hV
  obtain ⟨A0, c0, l0, rfl, g0, m0, HS0, hby0⟩ := val_bytes (hval 0 26 v0 rfl rfl) h0
  clear hA0 hval0
  refine (walk A0 c0 l0 W HS0 g0 m0 hby0).mono fun e W' ⟨he, hg⟩ => ?_
  subst he
  exact ⟨_, rfl, law_post rfl hW' rfl rfl rfl rfl (by rw [Try.params4]; decide +kernel) hg⟩

/-- the statement -/
theorem proved : Rows.PackParsesSaid :=
  OpenClaim.holds_of_wide 4 Try.f4 rfl rfl rfl rfl rfl rfl rfl ⟨rfl, rfl, rfl, rfl, rfl⟩ rfl rfl rfl rfl rfl (by kernel_rfl) Try.func4 (by kernel_rfl)
    (of_decide_eq_true (by kernel_rfl)) (by unfold Func.isWrapper; first | (rw [if_pos (by decide +kernel)]; kernel_rfl) | (rw [if_neg (by decide +kernel)]; exact ⟨rfl, rfl⟩))
    (fun os started H enc _ => lifted os started H enc)
end Go.Proofs.Ytcoapllgpjjbcaa.packParses
