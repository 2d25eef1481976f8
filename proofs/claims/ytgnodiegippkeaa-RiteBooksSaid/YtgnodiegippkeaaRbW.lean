/- Walk of the reference's RiteBook, with summer. -/
import Derived.Test.YtgnodiegippkeaaRbR
import Derived.Test.YtgnodiegippkeaaRbV
import Derived.Test.YtgnodiegippkeaaRbX
import Derived.Test.YtgnodiegippkeaaOwnSl
import Derived.Deep.RegionHeld3
import Derived.Deep.DrawnRows
namespace Go.Proofs.Ytgnodiegippkeaa
open Go.RowKit
set_option linter.unusedVariables false
set_option maxRecDepth 100000 in
set_option maxHeartbeats 4000000 in
theorem r_Book_s (name also : ByteArray) (off aoff m1 k1 d1 a1 m2 k2 d2 a2 : Int) (nm : ByteArray) (fr to : Int) (hn : name.size ≤ maxLen) (hl : also.size ≤ maxLen) (hm : nm.size ≤ maxLen) (h : posE name off also aoff m1 k1 d1 a1 m2 k2 d2 a2 = 0) (h2 : isNameB nm.data.toList = true) (h3 : 1900 ≤ fr ∧ fr ≤ 2100 ∧ fr ≤ to ∧ to ≤ 2100) (h4 : 1 ≤ also.size) (h5 : name.size + 1 + also.size ≤ 12) (s1 : name.size ≤ 8) (s2 : also.size ≤ 8) (r1 : 1 ≤ k1 ∧ k1 ≤ 5) (r2 : 1 ≤ k2 ∧ k2 ≤ 5) (o1 : -64800 ≤ off ∧ off ≤ 64800) (o2 : off + 1 ≤ aoff ∧ aoff ≤ off + 10800) (w : World) :
    Calls Try.prog 35 #[.agg #[.string name, .int .i64 off, .string also, .int .i64 aoff, .int .i64 m1, .int .i64 k1, .int .i64 d1, .int .i64 a1, .int .i64 m2, .int .i64 k2, .int .i64 d2, .int .i64 a2], .string nm, .int .i64 fr, .int .i64 to] w fun e w' => ∃ A ca g cz E ce, e = .returned (.tuple #[.agg #[.slice A 2 ca, .slice (some ⟨g, 0, none⟩) 1 cz, .slice none 0 0], .int .i64 0]) ∧ Below w.heap.size w w' ∧ BkOk w' [rbOne m1 k1 d1 a1 (aoff - off) fr to, rbOne m2 k2 d2 a2 0 fr to] nm (⟨off, RITE, 0, name ++ ⟨#[47]⟩ ++ also, 0⟩) A ca g cz E ce := by
  have HS := Lib.hid (R4.start w #[.string name, .int .i64 off, .string also, .int .i64 aoff, .int .i64 m1, .int .i64 k1, .int .i64 d1, .int .i64 a1, .int .i64 m2, .int .i64 k2, .int .i64 d2, .int .i64 a2] fr to 57 3 64)
  have c1 : decide (fr < 1900 ∨ 2100 < fr) = false := by simp; omega
  have c2 : decide (to < 1900 ∨ 2100 < to) = false := by simp; omega
  have c3 : fr ≤ to := h3.2.2.1
  have q1 := ne_list h4
  have q2 := ne_isEmpty h4
  obtain ⟨o1a, o1b⟩ := o1
  obtain ⟨o2a, o2b⟩ := o2
  have HK1 := Lib.hid r1
  have HK2 := Lib.hid r2
  clear h3 h4 r1 r2
  go_enter Try.func35, Try.ntmps35
  go_wp2_with fail
  refine (r_RiteCheck _ _ _ _ _ _ _ _ _ _ _ _ hn hl _).mono ?_
  rintro e w1 ⟨rfl, hb⟩
  replace HS := Lib.hid (HS.out.step hb)
  clear hb
  have hcs := HS.out.1.1
  go_wp2_with fail
  refine (r_IsName _ hm _).mono ?_
  rintro e w2 ⟨rfl, hb⟩
  replace HS := Lib.hid (HS.out.step hb)
  clear hb hcs
  have hcs := HS.out.1.1
  have hf1 := HS.out.2.1.1
  have hf2 := HS.out.2.2.1.1
  go_wp2_with (first | (go_at_call 50; refine (r_outside _ _ _ _).mono ?_; rintro e w' ⟨rfl, rfl⟩))
  have hS := VQ.of HS.out
  clear hcs hf1 hf2
  have hwx : IntKind.i64.wrap (aoff - off) = aoff - off := IntWalk.i64_in _ (by omega)
  go_region_held3 (fun w' => (∀ i, w'.cell? ⟨w.heap.size, i, none⟩ = (#[.string name, .int .i64 off, .string also, .int .i64 aoff, .int .i64 m1, .int .i64 k1, .int .i64 d1, .int .i64 a1, .int .i64 m2, .int .i64 k2, .int .i64 d2, .int .i64 a2] : Array Value)[i]?) ∧ w'.cell? ⟨w.heap.size + 1 + 1 + 1, 0, none⟩ = some (cellOf w' (w.heap.size + 1 + 1 + 1) 0) ∧ w'.cell? ⟨w.heap.size + 1 + 1 + 1, 1, none⟩ = some (cellOf w' (w.heap.size + 1 + 1 + 1) 1) ∧
    w'.cell? ⟨w.heap.size + 1 + 1 + 1, 2, none⟩ = some (cellOf w' (w.heap.size + 1 + 1 + 1) 2) ∧ (∀ i, w'.frozen? ⟨w.heap.size + 1 + 1 + 1, i, none⟩ = false) ∧ V5 w w' #[.string name, .int .i64 off, .string also, .int .i64 aoff, .int .i64 m1, .int .i64 k1, .int .i64 d1, .int .i64 a1, .int .i64 m2, .int .i64 k2, .int .i64 d2, .int .i64 a2] fr to)
    (with_reducible first | assumption | (refine VQ.alloc ?_ _; assumption) | exact VQ.drew hS | exact VQ.drew (VQ.alloc hS _) | exact VQ.drew (VQ.alloc (VQ.alloc hS _) _) | (refine VQ.set3 ?_ _ _ _; assumption) | (refine VQ.step ?_ hb5; assumption))
    (first | (go_at_call 69; refine (r_one _ _ _ _ _ _ _ _ _ ?_ _ (VQ.f1 (by assumption)) (VQ.f2 (by assumption)) (VQ.l1 (by assumption)) (VQ.l2 (by assumption))).mono ?_; (first | exact HK1.out | exact HK2.out); rintro e w5 ⟨rfl, hb5⟩))
  all_goals
    clear hS
    go_wp2_with fail
    apply rb_fin (w := w) (fr := fr) (to := to) (cs := #[.string name, .int .i64 off, .string also, .int .i64 aoff, .int .i64 m1, .int .i64 k1, .int .i64 d1, .int .i64 a1, .int .i64 m2, .int .i64 k2, .int .i64 d2, .int .i64 a2])
    case hz => repeat (first | exact Bx.new' _ _ _ (by simp) | (refine Bx.alloc ?_ _) | (refine Bx.step ?_ (by assumption)))
    case hd => rfl
    case hrs => rfl
    case hres =>
      intro W q0 q1 q2
      simp [results, Try.results35, go_sem, q0, q1, q2]
    case hU => repeat (first | exact HS.out | (refine R4.alloc ?_ _) | (refine R4.drew ?_) | (refine R4.step ?_ (by assumption)))
    case hr => repeat (first | exact Bx.new' _ _ _ (by simp) | (refine Bx.alloc ?_ _) | (refine Bx.step ?_ (by assumption)))
    case he => repeat (first | exact Bx.new' _ _ _ (by simp) | (refine Bx.alloc ?_ _) | (refine Bx.step ?_ (by assumption)))
end Go.Proofs.Ytgnodiegippkeaa
