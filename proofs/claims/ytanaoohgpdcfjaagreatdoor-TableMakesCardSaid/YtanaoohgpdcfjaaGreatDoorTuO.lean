/- turns.Of, walked; R.Eq at turns. -/
import Derived.Test.YtanaoohgpdcfjaaGreatDoorTuA
import Derived.Test.YtanaoohgpdcfjaaGreatDoorNr
namespace Go.Proofs.YtanaoohgpdcfjaaGreatDoor
open Go.RowKit
set_option linter.unusedVariables false
attribute [local go_sem ↓] Go.wp_at_zero Go.wp_at_succ
theorem rub_of_book {rs : List RuT} {zs : List ZoT} {ls : List LkT} (h : bookE rs zs ls = 0) : ∀ r ∈ rs, RuB r := by
  intro r hr
  obtain ⟨k, hk, rfl⟩ := List.getElem_of_mem hr
  have := (bookE_inv h).2.1 k hk
  rw [get_bang hk] at this
  exact RuB.of this
/-- the offsets that may be -/
def offOk (off : Int) : Prop := -64800 ≤ off ∧ off ≤ 64800
instance (off : Int) : Decidable (offOk off) := inferInstanceAs (Decidable (_ ∧ _))
def ofE (rs : List RuT) (zs : List ZoT) (ls : List LkT) (nm : ByteArray) (off : Int) : Int :=
  if bookE rs zs ls ≠ 0 then bookE rs zs ls else if offOk off then turnE rs nm off else 1
def ofL (rs : List RuT) (zs : List ZoT) (ls : List LkT) (nm : ByteArray) (off : Int) : List TuT :=
  if bookE rs zs ls = 0 ∧ offOk off then turnL rs nm off else []
theorem of_bad {rs : List RuT} {zs : List ZoT} {ls : List LkT} {nm : ByteArray} {off : Int} (h : bookE rs zs ls ≠ 0) : ofE rs zs ls nm off = bookE rs zs ls ∧ ofL rs zs ls nm off = [] := by simp [ofE, ofL, h]
theorem of_arg {rs : List RuT} {zs : List ZoT} {ls : List LkT} {nm : ByteArray} {off : Int} (h : bookE rs zs ls = 0) (h2 : ¬ offOk off) : ofE rs zs ls nm off = 1 ∧ ofL rs zs ls nm off = [] := by simp [ofE, ofL, h, h2]
theorem of_ok {rs : List RuT} {zs : List ZoT} {ls : List LkT} {nm : ByteArray} {off : Int} (h : bookE rs zs ls = 0) (h2 : offOk off) : ofE rs zs ls nm off = turnE rs nm off ∧ ofL rs zs ls nm off = turnL rs nm off := by simp [ofE, ofL, h, h2]
def OfPost (rs : List RuT) (zs : List ZoT) (ls : List LkT) (nm : ByteArray) (off : Int) (w : World) (e : Ending) (w' : World) : Prop :=
  ∃ v, e = .returned (.tuple #[v, .int .i64 (ofE rs zs ls nm off)]) ∧ w'.ownsRow w.heap.size 34 3 v (ofL rs zs ls nm off).length ((ofL rs zs ls nm off).map tuCells).flatten ∧ Below w.heap.size w w'
theorem ofp_bad {rs : List RuT} {zs : List ZoT} {ls : List LkT} {nm : ByteArray} {off x : Int} {w w' : World} (h : ofE rs zs ls nm off = x ∧ ofL rs zs ls nm off = []) (hb : Below w.heap.size w w') : OfPost rs zs ls nm off w (.returned (.tuple #[.slice none 0 0, .int .i64 x])) w' :=
  ⟨_, by rw [h.1], by rw [h.2]; exact World.ownsRow_nil _ _ _ _, hb⟩
set_option maxRecDepth 100000 in
set_option maxHeartbeats 4000000 in
theorem t_Of (AR AZ AL : Option Addr) (cR cZ cL : Nat) (rs : List RuT) (zs : List ZoT) (ls : List LkT) (nm : ByteArray) (off : Int) (w : World) (H : BkOk w w.heap.size ⟨AR, AZ, AL, cR, cZ, cL, rs, zs, ls⟩) (HI : EraIn w) :
    Calls Tryz.prog 9 #[.agg #[.slice AR rs.length cR, .slice AZ zs.length cZ, .slice AL ls.length cL], .string nm, .int .i64 off] w (OfPost rs zs ls nm off w) := by
  have hb0 := (Below.refl w.heap.size w).alloc (Nat.le_refl _) (.cells #[.slice AR rs.length cR, .slice AZ zs.length cZ, .slice AL ls.length cL] 26)
  have HC := Lib.hid (c_Check' AR AZ AL cR cZ cL rs zs ls _ (H.step hb0) (HI.on hb0))
  have HB := Lib.hid hb0
  have HK := Lib.hid (Blk.new w #[.slice AR rs.length cR, .slice AZ zs.length cZ, .slice AL ls.length cL] 26)
  have HM := Lib.hid (show bookE rs zs ls = 0 → offOk off → ∀ V : World, Below w.heap.size w V → Calls Tryz.prog 30 #[.slice AR rs.length cR, .string nm, .int .i64 off] V (TuPost rs nm off V) from fun h ho V hb =>
    t_Make AR cR rs.length rs nm off V rfl (H.step hb).R (H.step hb).hR (H.step hb).mR (bookE_inv h).1.1 (rub_of_book h) (by have := ho.1; omega) (by have := ho.2; omega))
  obtain ⟨E, hE⟩ : ∃ E, bookE rs zs ls = E := ⟨_, rfl⟩
  rw [hE] at HC
  have HE := Lib.hid hE
  obtain ⟨n, hn⟩ : ∃ n, rs.length = n := ⟨_, rfl⟩
  rw [hn] at HC HB HK HM ⊢
  clear hb0 H HI hE hn
  have kb := HK.out.cell
  go_enter Tryz.func9, Tryz.ntmps9
  go_wp2_with fail
  refine HC.out.mono ?_
  rintro e w2 ⟨rfl, hb2⟩
  replace HB := Lib.hid (HB.out.trans (hb2.mono HB.out.size))
  replace HK := Lib.hid (HK.out.step hb2)
  clear HC hb2 kb
  have kb := HK.out.cell
  have kl := HK.out.lt
  by_cases h0 : E = 0
  · subst h0
    by_cases ho : offOk off
    · have HM2 := Lib.hid (HM.out HE.out ho w2 HB.out)
      have HX := Lib.hid (of_ok (nm := nm) HE.out ho)
      obtain ⟨ho1, ho2⟩ := ho
      clear HM
      go_wp2_with fail
      refine HM2.out.mono ?_
      rintro e w3 ⟨v, rfl, hv, hb3⟩
      have HV := Lib.hid (And.intro hv hb3)
      clear hv hb3 kb kl
      go_wp2_with fail
      go_ret2
      refine ⟨v, by rw [HX.out.1]; rfl, ?_, HB.out.trans (HV.out.2.mono HB.out.size)⟩
      rw [HX.out.2]
      exact World.ownsRow.mono HV.out.1 HB.out.size
    · have HX := Lib.hid (of_arg (nm := nm) HE.out ho)
      rcases (show off < -64800 ∨ (-64800 ≤ off ∧ 64800 < off) by unfold offOk at ho; omega) with h1 | ⟨h1, h2⟩
      all_goals
        clear ho HM
        go_wp2_with fail
        go_ret2
        exact ofp_bad HX.out HB.out
  · have HX := Lib.hid (show ofE rs zs ls nm off = E ∧ ofL rs zs ls nm off = [] by have := of_bad (rs := rs) (zs := zs) (ls := ls) (nm := nm) (off := off) (by rw [HE.out]; exact h0); rwa [HE.out] at this)
    have h2 : (E != 0) = true := by rw [bne_iff_ne]; exact h0
    clear HM h0
    go_wp2_with fail
    go_ret2
    exact ofp_bad HX.out HB.out
theorem tu_at' {w : World} {B : Nat} {A : Option Addr} {ts : List TuT} (h : SlAt w B 3 A (ts.map tuCells)) {k : Nat} (hk : k < ts.length) :
    ∃ b o, A = some ⟨b, o, none⟩ ∧ b < B ∧ w.cell? ⟨b, o + k * 3, none⟩ = some (.int .i64 ts[k].1) ∧ w.cell? ⟨b, o + k * 3 + 1, none⟩ = some (.int .i64 ts[k].2.1) ∧ w.cell? ⟨b, o + k * 3 + 2, none⟩ = some (.string ts[k].2.2) := tu_at h hk
set_option maxRecDepth 100000 in
set_option maxHeartbeats 4000000 in
theorem r_EqTu (A C : Option Addr) (ca cc : Nat) (rs : List TuT) (w : World) (hA : SlAt w w.heap.size 3 A (rs.map tuCells)) (hC : SlAt w w.heap.size 3 C (rs.map tuCells)) (h1 : rs.length ≤ ca) (h2 : rs.length ≤ cc) (m1 : ca ≤ maxLen) (m2 : cc ≤ maxLen) :
    Calls Tryz.prog 12 #[.slice A rs.length ca, .slice C rs.length cc] w fun e w' => e = .returned (.bool true) ∧ Below w.heap.size w w' := by
  unfold maxLen at m1 m2
  go_enter Tryz.func12, Tryz.ntmps12
  go_wp2_with fail
  go_loopw [14] (fun i wr => ∃ k : Nat, k ≤ rs.length ∧ i = .int .i64 k ∧ Below w.heap.size w wr) (fun i _ => rs.length - (intOf i).toNat)
  case atStart => exact ⟨0, Nat.zero_le _, rfl, Below.refl _ _⟩
  case round =>
    obtain ⟨k, hk, rfl, hB⟩ := hrel
    by_cases hlt : k < rs.length
    · obtain ⟨b, o, rfl, hb, c0, c1, c2⟩ := tu_at (hA.below hB) hlt
      obtain ⟨b2, o2, rfl, hb2, d0, d1, d2⟩ := tu_at (hC.below hB) hlt
      have hz := hB.size
      have hb' : b < wr.heap.size := by omega
      have hb2' : b2 < wr.heap.size := by omega
      have hi1 : (0 : Int) ≤ (k : Int) := by omega
      have hi2 : (k : Int) < (rs.length : Int) := by omega
      obtain ⟨x, hx⟩ : ∃ x, rs[k] = x := ⟨_, rfl⟩
      rw [hx] at c0 c1 c2 d0 d1 d2
      clear hx
      go_wp2_with fail
      go_quiet (fail)
      go_wp2_with fail
      exact ⟨⟨k + 1, by omega, by go_num, below_drewN (hB.alloc hz _) _⟩, by simp [intOf]; omega⟩
    · obtain rfl : k = rs.length := by omega
      go_wp2_with fail
      go_ret
      exact ⟨rfl, hB⟩
end Go.Proofs.YtanaoohgpdcfjaaGreatDoor
