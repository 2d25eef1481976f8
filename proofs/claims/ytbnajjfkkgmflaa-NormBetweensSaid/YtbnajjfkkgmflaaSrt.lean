/- Walk of the reference's sorted. -/
import Derived.Test.YtbnajjfkkgmflaaSrtP
import Derived.Test.YtbnajjfkkgmflaaNsD
import Derived.Test.YtbnajjfkkgmflaaNmI
import Derived.Test.YtbnajjfkkgmflaaEqI
import Derived.Deep.RegionHeld3
import Derived.Deep.DrawnRows
import Derived.RegionTactic
import Derived.Deep.Onto
import Derived.Deep.Cut
import Derived.Deep.CutRange
namespace Go.Proofs.Ytbnajjfkkgmflaa
open Go.RowKit
set_option linter.unusedVariables false
attribute [local go_sem ↓] Go.wp_at_zero Go.wp_at_succ
theorem in_flat (O : List Int) : (O.map inCells).flatten = O.map (Value.int .i64) := by
  induction O with
  | nil => rfl
  | cons a O ih => rw [List.map_cons, List.flatten_cons, ih]; rfl
theorem in_one {xs : List Int} : ∀ u ∈ xs.map (Value.int .i64), u.oneCell' = true := by
  intro u hu
  obtain ⟨c, _, rfl⟩ := List.mem_map.1 hu
  rfl
theorem own_in {W : World} {base : Nat} {v : Value} {O : List Int} (h : W.ownsRow base 3 1 v O.length (O.map (Value.int .i64))) :
    ∃ A cap, v = .slice A O.length cap ∧ O.length ≤ cap ∧ cap ≤ maxLen ∧ SlAt W W.heap.size 1 A (O.map inCells) := by
  have h' : W.ownsRow base 3 1 v (O.map inCells).length (O.map inCells).flatten := by rw [in_flat, List.length_map]; exact h
  obtain ⟨A, cap, a, b, c, d⟩ := own_at h' (by intro xs hx; obtain ⟨t, _, rfl⟩ := List.mem_map.1 hx; rfl)
  rw [List.length_map] at a b
  exact ⟨A, cap, a, b, c, d⟩
theorem in_src {w : World} {B : Nat} {A : Option Addr} {xs : List Int} (h : SlAt w B 1 A (xs.map inCells)) : 0 < xs.length → ∃ ad, A = some ad ∧ ∀ j u, (xs.map (Value.int .i64))[j]? = some u → w.cell? (ad.add j) = some u :=
  fun hn => by rw [← in_flat]; exact sl_flat h (by intro xs hx; obtain ⟨c, _, rfl⟩ := List.mem_map.1 hx; rfl) (by omega) (by simpa using hn)
/-- what is behind the k-th on -/
theorem in_drop {w : World} {B b o : Nat} {xs : List Int} (h : SlAt w B 1 (some ⟨b, o, none⟩) (xs.map inCells)) (k : Nat) : SlAt w B 1 (some ⟨b, o + k, none⟩) ((xs.drop k).map inCells) := by
  intro hn
  rw [List.length_map, List.length_drop] at hn
  obtain ⟨b', o', e, hb, hc⟩ := h (by rw [List.length_map]; omega)
  cases e
  refine ⟨b, o + k, rfl, hb, fun i hi j hj => ?_⟩
  rw [List.length_map, List.length_drop] at hi
  have h1 := hc (k + i) (by rw [List.length_map]; omega) j hj
  rw [show o + k + i * 1 + j = o + (k + i) * 1 + j by omega, h1]
  simp [List.getD]
theorem in_take {w : World} {B : Nat} {A : Option Addr} {xs : List Int} (h : SlAt w B 1 A (xs.map inCells)) (k : Nat) : SlAt w B 1 A ((xs.take k).map inCells) := by
  intro hn
  rw [List.length_map, List.length_take] at hn
  obtain ⟨b', o', e, hb, hc⟩ := h (by rw [List.length_map]; omega)
  refine ⟨b', o', e, hb, fun i hi j hj => ?_⟩
  rw [List.length_map, List.length_take] at hi
  rw [hc i (by rw [List.length_map]; omega) j hj]
  simp [List.getD, show i < k by omega]
set_option maxRecDepth 100000 in
theorem r_CopyInt (C : Option Addr) (cap : Nat) (cs : List Int) (w : World) (hC : SlAt w w.heap.size 1 C (cs.map inCells)) (h1 : cs.length ≤ 100000) :
    Calls Try.prog 31 #[.slice C cs.length cap] w fun e w' => ∃ v, e = .returned v ∧ w'.ownsRow w.heap.size 3 1 v cs.length (cs.map (Value.int .i64)) ∧ w.grownBy w' none := by
  obtain ⟨i0, hi0, hz0, hz1, hz2⟩ := info_parts info_int
  go_enter Try.func31, Try.ntmps31
  go_wp2_with (at_builtin; refine wpList_append_all rfl _ _ _ rfl w.heap.size 3 i0 _ 1 8 Try.underlying39 hi0 hz0 hz1 hz2 rfl (by omega) (.slice none 0 0) 0 [] rfl (World.ownsRow_nil _ _ _ _) C cs.length cap _ rfl (by simp) (in_src hC) in_one (by unfold maxLen; omega) (by omega) (Nat.le_refl _) ?_; intro v' w6 hown hgrow)
  go_wp2_with fail
  rw [Nat.zero_add, List.nil_append] at hown
  go_ret
  exact ⟨v', rfl, hown, hgrow⟩
def slLen : Value → Nat
  | .slice _ n _ => n
  | _ => 0
/-- sorted's answer -/
def SrtPost (L : List Int) (w : World) (e : Ending) (w' : World) : Prop := ∃ (v : Value) (O : List Int), e = .returned v ∧ w'.ownsRow w.heap.size 3 1 v O.length (O.map (Value.int .i64)) ∧ O.Pairwise (· < ·) ∧ (∀ x, x ∈ O ↔ x ∈ L) ∧ Below w.heap.size w w'
/-- what a round of sorted keeps -/
def SrtRel (L0 : List Int) (w : World) (lv ov : Value) (wr : World) : Prop := ∃ (L O : List Int) (A : Option Addr) (cap : Nat), lv = .slice A L.length cap ∧ L.length ≤ cap ∧ cap ≤ maxLen ∧ L.length ≤ L0.length ∧ O.length ≤ L0.length - L.length ∧ SlAt wr wr.heap.size 1 A (L.map inCells) ∧
  wr.ownsRow w.heap.size 3 1 ov O.length (O.map (Value.int .i64)) ∧ srtInv L0 L O ∧ (∀ a, A = some a → ov.ownBlock ≠ some a.block) ∧ Below w.heap.size w wr
set_option maxRecDepth 100000 in
set_option maxHeartbeats 4000000 in
theorem r_sorted (A : Option Addr) (cap : Nat) (L0 : List Int) (w : World) (hS : SlAt w w.heap.size 1 A (L0.map inCells)) (h1 : L0.length ≤ 100000) (h2 : L0.length ≤ cap) (h3 : cap ≤ maxLen) :
    Calls Try.prog 18 #[.slice A L0.length cap] w (SrtPost L0 w) := by
  obtain ⟨i0, hi0, hz0, hz1, hz2⟩ := info_parts info_int
  go_enter Try.func18, Try.ntmps18
  go_wp2_with fail
  go_loopw [0, 3] (fun lv ov wr => SrtRel L0 w lv ov wr) (fun lv _ _ => slLen lv)
  case atStart => exact ⟨L0, [], A, cap, rfl, h2, h3, Nat.le_refl _, by simp, hS, World.ownsRow_nil _ _ _ _, srt_start _, fun _ _ h => by simp [Value.ownBlock] at h, Below.refl _ _⟩
  case round =>
    obtain ⟨L, O, A, cap, rfl, h2, h3, h4, h5, hS, hO, hI, hne, hB⟩ := hrel
    have HNe := Lib.hid hne
    clear hne
    unfold maxLen at h3
    have HI := Lib.hid hI
    have HB := Lib.hid hB
    have HS := Lib.hid hS
    have HO := Lib.hid hO
    clear hI hB hO
    by_cases hlt : 0 < L.length
    · obtain ⟨b, o, rfl, hb', c0⟩ := in_at hS hlt
      clear c0 hS
      go_wp2_with fail
      go_loopw [4, 11] (fun kv iv wq => ∃ i k : Nat, i ≤ L.length ∧ iv = .int .i64 i ∧ kv = .int .i64 k ∧ k < L.length ∧ Hid (∀ j (hj : j < L.length), j < i → L.getD k 0 ≤ L[j]) ∧ ∃ n, wq = wr.drewN n) (fun _ iv _ => L.length - (intOf iv).toNat)
      case atStart => exact ⟨0, 0, Nat.zero_le _, rfl, rfl, hlt, Lib.hid (fun j _ h => by omega), 0, rfl⟩
      case round =>
        obtain ⟨i, k, hi, rfl, rfl, hk, HM, nn, rfl⟩ := hrel
        by_cases hil : i < L.length
        · obtain ⟨_, _, e, _, c0⟩ := in_at HS.out hil
          cases e
          obtain ⟨_, _, e, _, c1⟩ := in_at HS.out hk
          cases e
          have hi1 : (0 : Int) ≤ (i : Int) := by omega
          have hi2 : (i : Int) < (L.length : Int) := by omega
          have hk1 : (0 : Int) ≤ (k : Int) := by omega
          have hk2 : (k : Int) < (L.length : Int) := by omega
          have hgk : L.getD k 0 = L[k] := by simp [List.getD, hk]
          have hgi : L.getD i 0 = L[i] := by simp [List.getD, hil]
          have HN1 := Lib.hid (fun (h : L[i] < L[k]) j (hj : j < L.length) (h2 : j < i + 1) => (show L.getD i 0 ≤ L[j] by
            rw [hgi]
            by_cases e : j = i
            · subst e; exact Int.le_refl _
            · have := HM.out j hj (by omega); rw [hgk] at this; omega))
          have HN2 := Lib.hid (fun (h : L[k] ≤ L[i]) j (hj : j < L.length) (h2 : j < i + 1) => (show L.getD k 0 ≤ L[j] by
            rw [hgk]
            by_cases e : j = i
            · subst e; exact h
            · have := HM.out j hj (by omega); rw [hgk] at this; omega))
          obtain ⟨x, hx⟩ : ∃ x, L[i] = x := ⟨_, rfl⟩
          obtain ⟨y, hy⟩ : ∃ y, L[k] = y := ⟨_, rfl⟩
          rw [hx] at c0
          rw [hy] at c1
          rw [hx, hy] at HN1 HN2
          clear hx hy hgk hgi
          by_cases hxy : x < y
          · go_wp2_with fail
            go_quiet (fail)
            go_wp2_with fail
            exact ⟨⟨i + 1, i, by omega, by go_num, rfl, hil, Lib.hid (HN1.out hxy), _, rfl⟩, by simp [intOf]; omega⟩
          · have hyx : y ≤ x := by omega
            clear hxy
            go_wp2_with fail
            go_quiet (fail)
            go_wp2_with fail
            exact ⟨⟨i + 1, k, by omega, by go_num, rfl, hk, Lib.hid (HN2.out hyx), _, rfl⟩, by simp [intOf]; omega⟩
        · obtain rfl : i = L.length := by omega
          obtain ⟨_, _, e, _, c1⟩ := in_at HS.out hk
          cases e
          have hk1 : (0 : Int) ≤ (k : Int) := by omega
          have hk2 : (k : Int) < (L.length : Int) := by omega
          have hgk : L.getD k 0 = L[k] := by simp [List.getD, hk]
          have HMin := Lib.hid (fun j (hj : j < L.length) => (show L[k] ≤ L[j] by have := HM.out j hj hj; rwa [hgk] at this))
          clear HM hgk
          have hOw : (wr.drewN nn).ownsRow w.heap.size 3 1 u3 O.length (O.map (Value.int .i64)) := own_step HO.out (below_drewN (Below.refl _ _) nn)
          have HOw := Lib.hid hOw
          obtain ⟨A2, cap2, rfl, g1, g2, hA2⟩ := own_in hOw
          clear hOw
          unfold maxLen at g2
          have HAdd := Lib.hid (srt_add HI.out hk (fun j hj => HMin.out j hj))
          have HSame := Lib.hid (srt_same HI.out hk)
          have HSq := Lib.hid (HS.out.below (below_drewN (Below.refl wr.heap.size wr) nn))
          have HBq := Lib.hid (below_drewN HB.out nn)
          obtain ⟨x, hx⟩ : ∃ x, L[k] = x := ⟨_, rfl⟩
          rw [hx] at c1 HAdd HSame
          have c1' : (wr.drewN nn).cell? ⟨b, o + k, none⟩ = some (.int .i64 x) := c1
          clear hx HMin
          obtain ⟨wq, hwq⟩ : ∃ wq, wr.drewN nn = wq := ⟨_, rfl⟩
          rw [hwq] at HSq HBq HOw c1' hA2 ⊢
          have hwz : wr.heap.size = wq.heap.size := by rw [← hwq]; rfl
          rw [hwz] at HSq hb'
          clear c1 hwq HS HB HO
          go_upto_region 10 with fail
          go_cut [40] from 25 to 39 (fun p wx => ∃ q : Bool, p = .bool q ∧ Hid (q = true → srtInv L0 (L.take k ++ L.drop (k + 1)) (O ++ [x])) ∧ Hid (q = false → srtInv L0 (L.take k ++ L.drop (k + 1)) O) ∧ ∃ n, wx = wq.drewN n)
          case first =>
            by_cases h0 : O.length = 0
            · obtain rfl : O = [] := List.length_eq_zero_iff.1 h0
              clear h0
              go_quiet (fail)
              go_wp2_with fail
              go_meet
              exact ⟨_, rfl, Lib.hid (fun _ => HAdd.out (fun h => by simp at h)), Lib.hid (fun h => by cases h), _, rfl⟩
            · obtain ⟨m, hm⟩ : ∃ m, O.length = m + 1 := ⟨O.length - 1, by omega⟩
              obtain ⟨b2, o2, rfl, hb2, d0⟩ := in_at hA2 (show m < O.length by omega)
              have hlast : ∀ (ho : 0 < O.length), O[O.length - 1]'(by omega) = O[m]'(by omega) := fun ho => by congr 1; omega
              obtain ⟨z, hz⟩ : ∃ z, O[m]'(by omega) = z := ⟨_, rfl⟩
              rw [hz] at d0
              have HLast : Hid (∀ ho : 0 < O.length, O[O.length - 1]'(Nat.sub_lt ho Nat.one_pos) = z) := Lib.hid (fun ho => (hlast ho).trans hz)
              have HM1 := Lib.hid hm
              have hml : m ≤ 100000 := by omega
              have he : decide ((O.length : Int) = 0) = false := decide_eq_false (by omega)
              have he2 : ((O.length : Int) == 0) = false := beq_eq_false_iff_ne.2 (by omega)
              have hw1 : IntKind.i64.wrap ((O.length : Int) - 1) = (m : Int) := by rw [show (O.length : Int) - 1 = m by omega]; exact IntWalk.i64_in _ (by omega)
              have hi0' : (0 : Int) ≤ (m : Int) := by omega
              have hi1' : (m : Int) < (O.length : Int) := by omega
              have hi3' : m < O.length := by omega
              clear hz hlast h0 hm
              by_cases hzx : z = x
              · have hn : (z != x) = false := by simp [hzx]
                have HS2 := Lib.hid (HSame.out (by rw [HM1.out]; omega) (by rw [HLast.out (by rw [HM1.out]; omega)]; exact hzx))
                clear hzx
                go_quiet (fail)
                go_wp2_with fail
                go_meet
                exact ⟨_, rfl, Lib.hid (fun h => by cases h), Lib.hid (fun _ => HS2.out), _, rfl⟩
              · have hn : (z != x) = true := by simp [hzx]
                have HS2 := Lib.hid (HAdd.out (fun h => by rw [HLast.out h]; exact hzx))
                clear hzx
                go_quiet (fail)
                go_wp2_with fail
                go_meet
                exact ⟨_, rfl, Lib.hid (fun _ => HS2.out), Lib.hid (fun h => by cases h), _, rfl⟩
          case rest =>
            obtain ⟨q, rfl, HQ1, HQ2, nz, rfl⟩ := hcut
            go_upto_if 40 with fail
            go_cut [3] from 41 to 47 (fun ov wx => ∃ O', wx.ownsRow w.heap.size 3 1 ov O'.length (O'.map (Value.int .i64)) ∧ Hid (srtInv L0 (L.take k ++ L.drop (k + 1)) O') ∧ O'.length ≤ O.length + 1 ∧ SlAt wx wx.heap.size 1 (some ⟨b, o, none⟩) (L.map inCells) ∧ Below w.heap.size w wx)
            case first =>
              cases q with
              | true =>
                go_wp2_with (at_builtin; refine wpList_append_lies _ rfl _ _ _ rfl w.heap.size 3 i0 _ 1 8 Try.underlying39 hi0 hz0 hz1 hz2 rfl (by omega) (.slice A2 O.length cap2) O.length _ rfl ((own_step HOw.out (below_drewN (Below.refl _ _) nz)).alloc _) ⟨wq.heap.size, 0, none⟩ 1 1 (inCells x) rfl rfl (World.news_of_block (cs := (inCells x).toArray) (t := 3) (fr := (0, 0)) (Blk.new' _ _ _ (by simp))) (by simp [Value.oneCell', inCells]) (by omega) (by unfold maxLen; omega) (by omega) (by have := HBq.out.size; simp; omega) (wq.heap.size + 1) (by simp) ?_; intro gg cap3 w7 hown1 hgrow hat hlt6)
                have hbig : Below w.heap.size wq w7 := ((below_drewN (Below.refl _ _) nz).alloc HBq.out.size _).trans (below_app (by have := HBq.out.size; simp; omega) ((own_step HOw.out (below_drewN (Below.refl _ _) nz)).alloc _) hgrow)
                go_meet
                exact ⟨O ++ [x], by rw [List.length_append, List.map_append]; exact hown1, Lib.hid (HQ1.out (by first | rfl | trivial)), by simp, ((HSq.out.below ((below_drewN (Below.refl _ _) nz).alloc (Nat.le_refl _) _)).grown hgrow (HNe.out _ rfl) (by simp; omega)).more hbig.size, HBq.out.trans hbig⟩
              | false =>
                go_wp2_with fail
                go_meet
                exact ⟨O, own_step HOw.out (below_drewN (Below.refl _ _) nz), Lib.hid (HQ2.out (by first | rfl | trivial)), by omega, HSq.out.below (below_drewN (Below.refl wq.heap.size wq) nz), below_drewN HBq.out nz⟩
            case rest =>
              obtain ⟨O', hO', HI', hl', hS', hB'⟩ := hcut
              have HO' := Lib.hid hO'
              have HS' := Lib.hid hS'
              have HB' := Lib.hid hB'
              clear hO' hS' hB' HQ1 HQ2 HOw HSq HBq HAdd HSame hA2
              have hk3 : (0 : Int) ≤ (k : Int) + 1 := by omega
              have hw3 : IntKind.i64.wrap ((k : Int) + 1) = (k : Int) + 1 := IntWalk.i64_in _ (by omega)
              go_upto_region 12 with fail
              have hS0 : SlAt wc.drew wc.heap.size 1 (some ⟨b, o, none⟩) (L.map inCells) ∧ Below wc.heap.size wc wc.drew := ⟨HS'.out, (Below.refl _ _).drew⟩
              have hkl : (L.take k).length = k := by rw [List.length_take]; omega
              have hC1 : ∀ W, (SlAt W wc.heap.size 1 (some ⟨b, o, none⟩) (L.map inCells) ∧ Below wc.heap.size wc W) → Calls Try.prog 31 #[.slice (some ⟨b, o, none⟩) k cap] W fun e w' => ∃ v, e = .returned v ∧ w'.ownsRow W.heap.size 3 1 v k ((L.take k).map (Value.int .i64)) ∧ W.grownBy w' none := fun W hW => by
                have := r_CopyInt (some ⟨b, o, none⟩) cap (L.take k) W (in_take (hW.1.more hW.2.size) k) (by omega)
                rw [hkl] at this
                exact this
              have HC1 := Lib.hid hC1
              clear hC1 hkl
              have hq1 : k ≤ cap := by omega
              have hq2 : (k : Int) ≤ (cap : Int) := by omega
              have hq3 : (k : Int) + 1 ≤ (L.length : Int) := by omega
              have hq4 : ((k : Int) + 1).toNat = k + 1 := by omega
              have hq5 : (L.length : Int) ≤ (cap : Int) := by omega
              have hq6 : ¬ (k : Int) + 1 < 0 := by omega
              have hqq : (k : Int) ≤ (k : Int) + 1 := by omega
              rcases Decidable.em (cap = k + 1) with rfl | hcap
              all_goals
                go_region_held3 (fun W' => SlAt W' wc.heap.size 1 (some ⟨b, o, none⟩) (L.map inCells) ∧ Below wc.heap.size wc W')
                  (first | (with_reducible exact hS0) | (with_reducible exact hS6) | (with_reducible exact hS5) | (with_reducible assumption))
                  (first | (go_at_call 31; refine (HC1.out _ (by assumption)).mono ?_; rintro e w5 ⟨v5, rfl, hO5, hg5⟩; have hb5 := (Below.refl _ _).grown hg5 (Nat.le_refl _) (fun k hk => by cases hk); have hS5 : SlAt w5 wc.heap.size 1 (some ⟨b, o, none⟩) (L.map inCells) ∧ Below wc.heap.size wc w5 := ⟨hS0.1.below hb5, hS0.2.trans hb5⟩) | (refine step_append_all (by rfl) _ _ _ (by rfl) wc.drew.heap.size 3 i0 _ 1 8 Try.underlying39 hi0 hz0 hz1 hz2 rfl (by omega) v5 k _ (by rfl) hO5 _ _ _ ((L.drop (k + 1)).map (Value.int .i64)) (by rfl) (by first | (simp; done) | (simp; omega)) (by first | exact fun h => absurd h (by omega) | exact fun h => in_src (in_drop hS5.1 (k + 1)) (by rw [List.length_drop]; exact h)) in_one (by unfold maxLen; omega) (by omega) hb5.size ?_; intro v6 w6 hO6 hg6; have hb6 := below_app hb5.size hO5 hg6; have hS6 : SlAt w6 wc.heap.size 1 (some ⟨b, o, none⟩) (L.map inCells) ∧ Below wc.heap.size wc w6 := ⟨hS5.1.below hb6, hS5.2.trans hb6⟩))
              all_goals
                rename_i hX
                clear hX
                have HL2 := cut_length hk
                have HO2 : w6.ownsRow wc.drew.heap.size 3 1 v6 (L.take k ++ L.drop (k + 1)).length ((L.take k ++ L.drop (k + 1)).map (Value.int .i64)) := by
                  rw [HL2, List.map_append]; first | (rw [show k + (L.length - (k + 1)) = L.length - 1 by omega] at hO6; exact hO6) | (rw [show k + 0 = L.length - 1 by omega] at hO6; exact hO6)
                obtain ⟨A6, cap6, rfl, g61, g62, hA6⟩ := own_in HO2
                have hO9 : w5.ownsRow w.heap.size 3 1 u3 O'.length (O'.map (Value.int .i64)) := own_step (own_step HO'.out (Below.refl _ _).drew) hb5
                have hO8 := hO9.kept hg6 (by
                  cases hu : u3.ownBlock with
                  | none => exact Or.inl rfl
                  | some g => exact Or.inr (fun e => by have := (own_blk HO'.out hu).2; have := (own_blk hO5 e.symm).1; have hz : wc.drew.heap.size = wc.heap.size := rfl; omega))
                have hN8 : ∀ a, A6 = some a → u3.ownBlock ≠ some a.block := fun a ha e => by
                  subst ha
                  have := (own_blk HO'.out e).2; have := (own_blk HO2 (g := a.block) rfl).1; have hz : wc.drew.heap.size = wc.heap.size := rfl; omega
                have hB8 : Below w.heap.size w w6 := HB'.out.trans (hS6.2.mono HB'.out.size)
                have hR8 : SrtRel L0 w (.slice A6 (L.take k ++ L.drop (k + 1)).length cap6) u3 w6 := ⟨_, O', A6, cap6, rfl, g61, g62, by rw [HL2]; omega, by rw [HL2]; omega, hA6, hO8, HI'.out, hN8, hB8⟩
                have HR8 := Lib.hid hR8
                have HL3 := Lib.hid HL2
                clear hR8 hO8 hO9 HO2 hO6 hO5 hg6 hg5 hb5 hb6 hS5 hS6 hN8 hB8 HL2
                go_wp2_with fail
                go_roundw
                case rel => first | exact HR8.out | ((repeat apply Exists.intro); exact ⟨HR8.out, rfl⟩)
                case measure => simp only [slLen]; rw [HL3.out]; omega
    · have hL0 : L.length = 0 := by omega
      obtain rfl : L = [] := List.length_eq_zero_iff.1 hL0
      have hE := srt_end HI.out
      have HE := Lib.hid hE
      clear hE hlt
      go_wp2_with fail
      go_ret
      exact ⟨_, O, rfl, HO.out, HE.out.1, HE.out.2, HB.out⟩
end Go.Proofs.Ytbnajjfkkgmflaa
