/- Walks of the reference's TableOf and of table.At. -/
import Derived.Test.YtbnajjfkkgmflaaTabOf
import Derived.Test.YtbnajjfkkgmflaaTabA
namespace Go.Proofs.Ytbnajjfkkgmflaa
open Go.RowKit
set_option linter.unusedVariables false
set_option maxRecDepth 100000 in
set_option maxHeartbeats 4000000 in
theorem r_TableOf (A C : Option Addr) (capT capC : Nat) (ts : List Ty) (first : Int) (cs : List Ch) (time : Int) (w : World) (H : TabAt w A C capT capC ts cs) (K : TabOk ts first cs) :
    Calls Try.prog 19 #[.agg #[.slice A ts.length capT, .int .i64 first, .slice C cs.length capC], .int .i64 time] w
      fun e w' => e = .returned (.agg #[.int .i64 (tabOf ts first cs time).1, .bool (tabOf ts first cs time).2.1, .string (tabOf ts first cs time).2.2]) ∧ Below w.heap.size w w' := by
  have m1 := H.mT
  have m2 := H.mC
  have m3 := H.cT
  have m4 := H.cC
  have k1 := K.tmax
  have k2 := K.cmax
  unfold maxLen at m1 m2
  go_enter Try.func19, Try.ntmps19
  go_wp2_with fail
  go_loopw [5, 13] (fun kk i wr => ∃ n : Nat, n ≤ cs.length ∧ i = .int .i64 n ∧ kk = .int .i64 (tyIx first (cs.take n) time) ∧ Bx w.heap.size wr #[.slice A ts.length capT, .int .i64 first, .slice C cs.length capC] ∧ Bx (w.heap.size + 1) wr #[.int .i64 0, .bool false, .string ⟨#[]⟩] ∧ Below w.heap.size w wr) (fun _ i _ => cs.length - (intOf i).toNat)
  case atStart => exact ⟨0, Nat.zero_le _, rfl, rfl, (Bx.new _ _ _).alloc _, Bx.new' _ _ _ (by simp), (by repeat (first | exact Below.refl _ _ | assumption | apply Below.drew | apply below_drewN | (refine Below.alloc ?_ (by simp; try omega) _) | (refine Below.setCell ?_ (by simp; try omega) _)))⟩
  case round =>
    obtain ⟨n, hn, rfl, rfl, hx1, hx2, hbr⟩ := hrel
    by_cases hlt : n < cs.length
    · obtain ⟨b, o, rfl, hb, c0, c1⟩ := ch_at (H.C.below hbr) hlt
      have HS := Lib.hid (tyIx_take_succ first cs time n hlt)
      have hb2 : b < wr.heap.size := Nat.lt_of_lt_of_le hb hbr.size
      obtain ⟨cn, hcn⟩ : ∃ cn : Ch, cs[n] = cn := ⟨_, rfl⟩
      rw [hcn] at c0 c1 HS
      clear hcn
      by_cases hc : cn.1 ≤ time
      · go_wp2_with fail
        exact ⟨⟨n + 1, by omega, by go_num, congrArg _ (by rw [HS.out, if_pos hc]), hx1.alloc _, hx2.alloc _, hbr.alloc hbr.size _⟩, by simp [intOf]; omega⟩
      · go_wp2_with fail
        exact ⟨⟨n + 1, by omega, by go_num, congrArg _ (by rw [HS.out, if_neg (by omega)]), hx1.alloc _, hx2.alloc _, hbr.alloc hbr.size _⟩, by simp [intOf]; omega⟩
    · obtain rfl : n = cs.length := by omega
      rw [List.take_length]
      have hr2 := tyIx_range time K
      have htn : (tyIx first cs time).toNat < ts.length := by omega
      obtain ⟨bt, ot, rfl, hbt, d0, d1, d2⟩ := ty_at (H.T.below hbr) htn
      have HE := Lib.hid (show tabOf ts first cs time = ts[(tyIx first cs time).toNat] by rw [tabOf]; simp [List.getD, htn])
      obtain ⟨tt, htt⟩ : ∃ tt : Ty, ts[(tyIx first cs time).toNat] = tt := ⟨_, rfl⟩
      rw [htt] at d0 d1 d2 HE
      clear htt
      obtain ⟨r1, r2⟩ := hr2
      obtain ⟨ix, hix⟩ : ∃ ix : Int, tyIx first cs time = ix := ⟨_, rfl⟩
      rw [hix] at d0 d1 d2 r1 r2 htn
      rw [hix]
      clear hix
      have hcs := hx1.1
      have hr := hx2.1
      have hfr := hx2.2.1
      have hsz := hx2.2.2
      go_wp2_with fail
      refine bodyPost_ret (v := .agg #[.int .i64 tt.1, .bool tt.2.1, .string tt.2.2]) (by simp [results, Try.results19, go_sem, hr]) rfl ⟨by rw [HE.out], (by repeat (first | exact Below.refl _ _ | assumption | apply Below.drew | apply below_drewN | (refine Below.alloc ?_ (by simp; try omega) _) | (refine Below.setCell ?_ (by simp; try omega) _)))⟩

/-- what At answers -/
def atV (ts : List Ty) (first : Int) (cs : List Ch) (time : Int) : Ty := if tabE ts first cs = 0 then tabOf ts first cs time else tyZero
end Go.Proofs.Ytbnajjfkkgmflaa
