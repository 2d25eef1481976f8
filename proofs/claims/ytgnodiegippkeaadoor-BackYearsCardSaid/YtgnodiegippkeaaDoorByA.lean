/- Walk of back.Years. -/
import Derived.Test.YtgnodiegippkeaaDoorByP
import Derived.Test.YtgnodiegippkeaaDoorBlk
import Derived.Test.YtgnodiegippkeaaDoorStA
import Derived.Test.YtgnodiegippkeaaDoorRuleA
import Derived.Deep.AppendLies
import Derived.Deep.RegionHeld3
import Derived.Deep.DrawnRows
namespace Go.Proofs.YtgnodiegippkeaaDoor
open Go.RowKit
set_option linter.unusedVariables false
attribute [local go_sem ↓] Go.wp_at_zero Go.wp_at_succ
theorem info_Rule' : (Tryd.prog.info? 47).map (fun i => (i.zero, i.size, i.bytes)) = some (some (.agg #[.string ⟨#[]⟩, .int .i64 0, .int .i64 0, .int .i64 0, .int .i64 0, .int .i64 0, .int .i64 0, .int .i64 0, .int .i64 0, .int .i64 0, .string ⟨#[]⟩]), 11, 104) := by kernel_rfl
set_option maxRecDepth 100000 in
set_option maxHeartbeats 4000000 in
theorem i_Years (A : Option Addr) (cap : Nat) (l : List TuT) (w : World) (hA : SlAt w w.heap.size 3 A (l.map tuCells)) (h1 : l.length ≤ cap) (m1 : cap ≤ maxLen) (hn : ∀ t ∈ l, t.2.2.size ≤ maxLen) (hw : ∀ t ∈ l, -9223372036854775808 ≤ t.1 ∧ t.1 ≤ 9223372036854775807) :
    Calls Tryd.prog 12 #[.slice A l.length cap] w (ByPost l w) := by
  unfold maxLen at m1
  obtain ⟨i0, hi0, hz0, hz1, hz2⟩ := info_parts info_Rule'
  by_cases h40 : 40 < l.length
  · have HX := Lib.hid (byErr_large h40)
    go_enter Tryd.func12, Tryd.ntmps12
    go_wp2_with fail
    go_ret2
    exact by_bad HX.out (by decide) (Below.refl _ _)
  · go_enter Tryd.func12, Tryd.ntmps12
    go_wp2_with fail
    go_loopw [4, 18] (fun out i wr => ∃ k : Nat, k ≤ l.length ∧ i = .int .i64 k ∧ (∀ j (hj : j < l.length), j < k → byE (byPrev l j) l[j] = 0) ∧ wr.ownsRow w.heap.size 47 11 out ((l.take k).map byRule).length ((((l.take k).map byRule).map ruC).flatten) ∧ Below w.heap.size w wr) (fun _ i _ => l.length - (intOf i).toNat)
    case atStart => exact ⟨0, Nat.zero_le _, rfl, fun j _ h => absurd h (by omega), World.ownsRow_nil _ _ _ _, Below.refl _ _⟩
    case round =>
      obtain ⟨k, hk, rfl, hN, hO, hbr⟩ := hrel
      have HN := Lib.hid hN
      have HO := Lib.hid hO
      have HR := Lib.hid hbr
      have hWr := hbr.size
      by_cases hlt : k < l.length
      · obtain ⟨b, o, rfl, hb, c0, c1, c2⟩ := tu_at (hA.below hbr) hlt
        have hb' := Nat.lt_of_lt_of_le hb hbr.size
        obtain ⟨ht1, ht1'⟩ := hw _ (List.getElem_mem hlt)
        have ht2 := hn _ (List.getElem_mem hlt)
        have HT := Lib.hid (show (l.take (k + 1)).map byRule = (l.take k).map byRule ++ [byRule l[k]] by
          rw [List.take_succ_eq_append_getElem hlt, List.map_append]; rfl)
        have hl : ((l.take k).map byRule).length ≤ 1000 := by rw [List.length_map, List.length_take]; omega
        have HA := Lib.hid (fun (E : Int) (h3 : byE (byPrev l k) l[k] = E) (h0 : E ≠ 0) => by_at h40 hlt HN.out h3 h0)
        have HP := Lib.hid (byPrev_pos l k hlt)
        have HP0 := Lib.hid (show k = 0 → byPrev l k = none from fun h => by rw [byPrev, if_pos h])
        have HS := Lib.hid (fun (h : byE (byPrev l k) l[k] = 0) j (hj : j < l.length) (hjk : j < k + 1) => (if h2 : j < k then HN.out j hj h2 else (by obtain rfl : j = k := (by omega); exact h) : byE (byPrev l j) l[j] = 0))
        obtain ⟨p, hp⟩ : ∃ p, byPrev l k = p := ⟨_, rfl⟩
        obtain ⟨t, ht⟩ : ∃ t, l[k] = t := ⟨_, rfl⟩
        obtain ⟨s, hs⟩ : ∃ s, (l.take k).map byRule = s := ⟨_, rfl⟩
        rw [ht] at c0 c1 c2 ht1 ht1' ht2 HT HA HS
        rw [hp] at HA HP HP0 HS
        rw [hs] at HO HT hl
        have HXt := Lib.hid ht
        clear hN hO hbr hp ht hs HN
        have hxb := Bx.new wr #[.int .i64 t.1, .int .i64 t.2.1, .string t.2.2] 73
        have HR1 := Lib.hid (HR.out.alloc hWr (.cells #[.int .i64 t.1, .int .i64 t.2.1, .string t.2.2] 73))
        have HO1 := Lib.hid (HO.out.alloc (.cells #[.int .i64 t.1, .int .i64 t.2.1, .string t.2.2] 73))
        go_wp2_with fail
        revert hxb HR1 HO1
        generalize wr.alloc (.cells #[.int .i64 t.1, .int .i64 t.2.1, .string t.2.2] 73) = w1
        intro hxb HR1 HO1
        refine (k_Floor t.1 ht1 ht1' _).mono ?_
        rintro e w2 ⟨rfl, hb2⟩
        have hx2 := hxb.step hb2
        have HR2 := Lib.hid (HR1.out.trans (hb2.mono HR1.out.size))
        have HO2 := Lib.hid (own_step HO1.out hb2)
        clear hb2 hxb HR1 HO1
        obtain ⟨n, hn'⟩ : ∃ n, t.1 / 86400 = n := ⟨_, rfl⟩
        obtain ⟨r, hr'⟩ : ∃ r, t.1 % 86400 = r := ⟨_, rfl⟩
        have hr1 : 0 ≤ r ∧ r < 86400 := by omega
        obtain ⟨hr1, hr2⟩ := hr1
        have HN := Lib.hid hn'
        have HRr := Lib.hid hr'
        rw [hn', hr']
        clear hn' hr'
        have HXB := Lib.hid hx2
        clear hx2 c0 c1 c2
        cases hd : dateOk n with
        | false =>
          have HX := Lib.hid (HA.out 1 (byE_date (by rw [HN.out]; exact hd)) (by decide))
          have HC := Lib.hid (fun w => c_Date_no n hd w)
          clear hd
          go_wp2_with fail
          refine (HC.out _).mono ?_
          rintro e w3 ⟨rfl, rfl⟩
          go_wp2_with fail
          go_ret2
          exact by_bad HX.out (by decide) HR2.out
        | true =>
          have HD1 := Lib.hid (show dateOk (t.1 / 86400) = true by rw [HN.out]; exact hd)
          have hC := fun w => c_Date_yes n hd w
          obtain ⟨y, hy'⟩ : ∃ y, dYear n = y := ⟨_, rfl⟩
          obtain ⟨m, hm'⟩ : ∃ m, dMon n = m := ⟨_, rfl⟩
          obtain ⟨d, hd'⟩ : ∃ d, dDay n = d := ⟨_, rfl⟩
          rw [hy', hm', hd'] at hC
          have HC := Lib.hid hC
          have HY := Lib.hid hy'
          have HM := Lib.hid hm'
          have HDd := Lib.hid hd'
          clear hd hC hy' hm' hd'
          by_cases hyr : 1900 ≤ y ∧ y ≤ 2100
          · have HYr := Lib.hid (show 1900 ≤ dYear (t.1 / 86400) ∧ dYear (t.1 / 86400) ≤ 2100 by rw [HN.out, HY.out]; exact hyr)
            obtain ⟨hy1, hy2⟩ := hyr
            go_wp2_with fail
            refine (HC.out _).mono ?_
            rintro e w3 ⟨rfl, rfl⟩
            have hxc := HXB.out.1
            by_cases hk0 : k = 0
            · have HPn := Lib.hid (show ¬ ∃ q, p = some q ∧ t.1 ≤ q by rw [HP0.out hk0]; simp)
              have hdk : decide ((0 : Int) < (k : Int)) = false := by simp; omega
              have hdk2 : ¬ 0 < k := by omega
              go_wp2_with fail
              go_quiet (fail)
              clear hxc
              rename_i nq
              have hxq := HXB.out.drewN nq
              have HRq := Lib.hid (below_drewN HR2.out nq)
              have HOq := Lib.hid (show (w2.drewN nq).ownsRow w.heap.size 47 11 u4 s.length (s.map ruC).flatten from HO2.out)
              revert hxq HRq HOq
              generalize w2.drewN nq = wq
              intro hxq HRq HOq
              have hxc := hxq.1
              by_cases hsv : 0 ≤ t.2.1 ∧ t.2.1 ≤ 10800
              · have HSv := Lib.hid hsv
                obtain ⟨hsv1, hsv2⟩ := hsv
                cases hle : letOk t.2.2 with
                | false =>
                  have HX := Lib.hid (HA.out 3 (byE_letter HD1.out HYr.out HPn.out HSv.out hle) (by decide))
                  obtain ⟨e1, e2⟩ := letOk_no hle
                  clear hle
                  go_wp2_with (first | (go_at_call 34; refine (u_IsAbbr t.2.2 ht2 _).mono ?_; rintro e w' ⟨rfl, rfl⟩; (first | rw [e2] | skip)))
                  go_ret2
                  exact by_bad HX.out (by decide) HRq.out
                | true =>
                  have hlet := Lib.hid hle
                  rcases letOk_ways hle with e1 | ⟨e1, e2⟩
                  all_goals
                    clear hle
                    by_cases hlp : m = 2 ∧ d = 29
                    · have HBR := Lib.hid (show byRule t = ⟨YEARS, y, y, 2, 1, 0, 28, r + 86400, 2, t.2.1, t.2.2⟩ by rw [byRule, HN.out, if_pos (by rw [HM.out, HDd.out]; exact hlp), HY.out, HRr.out])
                      obtain ⟨rfl, rfl⟩ := hlp
                      go_wp2_with (first | (go_at_call 34; refine (u_IsAbbr t.2.2 ht2 _).mono ?_; rintro e w' ⟨rfl, rfl⟩; (first | rw [e2] | skip)) | (at_builtin; refine wpList_append_lies _ rfl _ _ _ rfl w.heap.size 47 i0 _ 11 104 Tryd.underlying33 hi0 hz0 hz1 hz2 rfl (by omega) u4 s.length _ rfl (HOq.out.alloc _) ⟨wq.heap.size, 0, none⟩ 1 1 (ruC ⟨YEARS, y, y, 2, 1, 0, 28, r + 86400, 2, t.2.1, t.2.2⟩) rfl rfl (World.news_of_block (cs := (ruC ⟨YEARS, y, y, 2, 1, 0, 28, r + 86400, 2, t.2.1, t.2.2⟩).toArray) (t := 47) (fr := (0, 0)) (heap_alloc_new wq _)) (by simp [Value.oneCell', ruC]) (by omega) (by unfold maxLen; omega) (by omega) (by have := HRq.out.size; simp; omega) (wq.heap.size + 1) (by simp) ?_; intro gg cap2 w6 hown1 hgrow hat hlt6))
                      exact ⟨⟨k + 1, by omega, by go_num, HS.out (byE_ok HD1.out HYr.out HPn.out HSv.out hlet.out), by rw [HT.out, HBR.out]; simpa using hown1, (HRq.out.alloc HRq.out.size _).trans (below_app (by have := HRq.out.size; simp; omega) (HOq.out.alloc _) hgrow)⟩, by simp [intOf]; omega⟩
                    · have HBR := Lib.hid (show byRule t = ⟨YEARS, y, y, m, 1, 0, d, r, 2, t.2.1, t.2.2⟩ by rw [byRule, HN.out, if_neg (by rw [HM.out, HDd.out]; exact hlp), HY.out, HRr.out, HM.out, HDd.out])
                      by_cases hm2 : m = 2
                      · have hd29 : (d == 29) = false := by rw [beq_eq_false_iff_ne]; exact fun e => hlp ⟨hm2, e⟩
                        subst hm2
                        clear hlp
                        go_wp2_with (first | (go_at_call 34; refine (u_IsAbbr t.2.2 ht2 _).mono ?_; rintro e w' ⟨rfl, rfl⟩; (first | rw [e2] | skip)) | (at_builtin; refine wpList_append_lies _ rfl _ _ _ rfl w.heap.size 47 i0 _ 11 104 Tryd.underlying33 hi0 hz0 hz1 hz2 rfl (by omega) u4 s.length _ rfl (HOq.out.alloc _) ⟨wq.heap.size, 0, none⟩ 1 1 (ruC ⟨YEARS, y, y, 2, 1, 0, d, r, 2, t.2.1, t.2.2⟩) rfl rfl (World.news_of_block (cs := (ruC ⟨YEARS, y, y, 2, 1, 0, d, r, 2, t.2.1, t.2.2⟩).toArray) (t := 47) (fr := (0, 0)) (heap_alloc_new wq _)) (by simp [Value.oneCell', ruC]) (by omega) (by unfold maxLen; omega) (by omega) (by have := HRq.out.size; simp; omega) (wq.heap.size + 1) (by simp) ?_; intro gg cap2 w6 hown1 hgrow hat hlt6))
                        exact ⟨⟨k + 1, by omega, by go_num, HS.out (byE_ok HD1.out HYr.out HPn.out HSv.out hlet.out), by rw [HT.out, HBR.out]; simpa using hown1, (HRq.out.alloc HRq.out.size _).trans (below_app (by have := HRq.out.size; simp; omega) (HOq.out.alloc _) hgrow)⟩, by simp [intOf]; omega⟩
                      · have hm3 : (m == 2) = false := by rw [beq_eq_false_iff_ne]; exact hm2
                        clear hlp hm2
                        go_wp2_with (first | (go_at_call 34; refine (u_IsAbbr t.2.2 ht2 _).mono ?_; rintro e w' ⟨rfl, rfl⟩; (first | rw [e2] | skip)) | (at_builtin; refine wpList_append_lies _ rfl _ _ _ rfl w.heap.size 47 i0 _ 11 104 Tryd.underlying33 hi0 hz0 hz1 hz2 rfl (by omega) u4 s.length _ rfl (HOq.out.alloc _) ⟨wq.heap.size, 0, none⟩ 1 1 (ruC ⟨YEARS, y, y, m, 1, 0, d, r, 2, t.2.1, t.2.2⟩) rfl rfl (World.news_of_block (cs := (ruC ⟨YEARS, y, y, m, 1, 0, d, r, 2, t.2.1, t.2.2⟩).toArray) (t := 47) (fr := (0, 0)) (heap_alloc_new wq _)) (by simp [Value.oneCell', ruC]) (by omega) (by unfold maxLen; omega) (by omega) (by have := HRq.out.size; simp; omega) (wq.heap.size + 1) (by simp) ?_; intro gg cap2 w6 hown1 hgrow hat hlt6))
                        exact ⟨⟨k + 1, by omega, by go_num, HS.out (byE_ok HD1.out HYr.out HPn.out HSv.out hlet.out), by rw [HT.out, HBR.out]; simpa using hown1, (HRq.out.alloc HRq.out.size _).trans (below_app (by have := HRq.out.size; simp; omega) (HOq.out.alloc _) hgrow)⟩, by simp [intOf]; omega⟩
              · have HX := Lib.hid (HA.out 1 (byE_save HD1.out HYr.out HPn.out hsv) (by decide))
                rcases (show t.2.1 < 0 ∨ (0 ≤ t.2.1 ∧ 10800 < t.2.1) by omega) with hsv1 | ⟨hsv1, hsv2⟩
                all_goals
                  clear hsv
                  go_wp2_with fail
                  go_ret2
                  exact by_bad HX.out (by decide) HRq.out
            · obtain ⟨b2, o2, e2', _, p0, _⟩ := tu_at (hA.below HR2.out) (show k - 1 < l.length by omega)
              simp only [Option.some.injEq, Addr.mk.injEq, and_true] at e2'
              obtain ⟨rfl, rfl⟩ := e2'
              have hi1 : (0 : Int) ≤ (k : Int) - 1 := by omega
              have hi2 : (k : Int) - 1 < (l.length : Int) := by omega
              have hi3 : 0 < k := by omega
              obtain ⟨q, hq⟩ : ∃ q, l[k - 1].1 = q := ⟨_, rfl⟩
              have hpq : p = some q := by rw [HP.out hi3, hq]
              rw [hq] at p0
              clear hq
              by_cases hpv : t.1 ≤ q
              · have HX := Lib.hid (HA.out 5 (byE_prev HD1.out HYr.out hpq hpv) (by decide))
                clear hpq
                go_wp2_with fail
                go_quiet (fail)
                go_wp2_with fail
                go_ret2
                exact by_bad HX.out (by decide) (below_drewN HR2.out _)
              · have HPn := Lib.hid (show ¬ ∃ q, p = some q ∧ t.1 ≤ q by rw [hpq]; rintro ⟨q', e, h⟩; cases e; exact hpv h)
                clear hpq
                go_wp2_with fail
                go_quiet (fail)
                clear hxc p0
                rename_i nq
                have hxq := HXB.out.drewN nq
                have HRq := Lib.hid (below_drewN HR2.out nq)
                have HOq := Lib.hid (show (w2.drewN nq).ownsRow w.heap.size 47 11 u4 s.length (s.map ruC).flatten from HO2.out)
                revert hxq HRq HOq
                generalize w2.drewN nq = wq
                intro hxq HRq HOq
                have hxc := hxq.1
                by_cases hsv : 0 ≤ t.2.1 ∧ t.2.1 ≤ 10800
                · have HSv := Lib.hid hsv
                  obtain ⟨hsv1, hsv2⟩ := hsv
                  cases hle : letOk t.2.2 with
                  | false =>
                    have HX := Lib.hid (HA.out 3 (byE_letter HD1.out HYr.out HPn.out HSv.out hle) (by decide))
                    obtain ⟨e1, e2⟩ := letOk_no hle
                    clear hle
                    go_wp2_with (first | (go_at_call 34; refine (u_IsAbbr t.2.2 ht2 _).mono ?_; rintro e w' ⟨rfl, rfl⟩; (first | rw [e2] | skip)))
                    go_ret2
                    exact by_bad HX.out (by decide) HRq.out
                  | true =>
                    have hlet := Lib.hid hle
                    rcases letOk_ways hle with e1 | ⟨e1, e2⟩
                    all_goals
                      clear hle
                      by_cases hlp : m = 2 ∧ d = 29
                      · have HBR := Lib.hid (show byRule t = ⟨YEARS, y, y, 2, 1, 0, 28, r + 86400, 2, t.2.1, t.2.2⟩ by rw [byRule, HN.out, if_pos (by rw [HM.out, HDd.out]; exact hlp), HY.out, HRr.out])
                        obtain ⟨rfl, rfl⟩ := hlp
                        go_wp2_with (first | (go_at_call 34; refine (u_IsAbbr t.2.2 ht2 _).mono ?_; rintro e w' ⟨rfl, rfl⟩; (first | rw [e2] | skip)) | (at_builtin; refine wpList_append_lies _ rfl _ _ _ rfl w.heap.size 47 i0 _ 11 104 Tryd.underlying33 hi0 hz0 hz1 hz2 rfl (by omega) u4 s.length _ rfl (HOq.out.alloc _) ⟨wq.heap.size, 0, none⟩ 1 1 (ruC ⟨YEARS, y, y, 2, 1, 0, 28, r + 86400, 2, t.2.1, t.2.2⟩) rfl rfl (World.news_of_block (cs := (ruC ⟨YEARS, y, y, 2, 1, 0, 28, r + 86400, 2, t.2.1, t.2.2⟩).toArray) (t := 47) (fr := (0, 0)) (heap_alloc_new wq _)) (by simp [Value.oneCell', ruC]) (by omega) (by unfold maxLen; omega) (by omega) (by have := HRq.out.size; simp; omega) (wq.heap.size + 1) (by simp) ?_; intro gg cap2 w6 hown1 hgrow hat hlt6))
                        exact ⟨⟨k + 1, by omega, by go_num, HS.out (byE_ok HD1.out HYr.out HPn.out HSv.out hlet.out), by rw [HT.out, HBR.out]; simpa using hown1, (HRq.out.alloc HRq.out.size _).trans (below_app (by have := HRq.out.size; simp; omega) (HOq.out.alloc _) hgrow)⟩, by simp [intOf]; omega⟩
                      · have HBR := Lib.hid (show byRule t = ⟨YEARS, y, y, m, 1, 0, d, r, 2, t.2.1, t.2.2⟩ by rw [byRule, HN.out, if_neg (by rw [HM.out, HDd.out]; exact hlp), HY.out, HRr.out, HM.out, HDd.out])
                        by_cases hm2 : m = 2
                        · have hd29 : (d == 29) = false := by rw [beq_eq_false_iff_ne]; exact fun e => hlp ⟨hm2, e⟩
                          subst hm2
                          clear hlp
                          go_wp2_with (first | (go_at_call 34; refine (u_IsAbbr t.2.2 ht2 _).mono ?_; rintro e w' ⟨rfl, rfl⟩; (first | rw [e2] | skip)) | (at_builtin; refine wpList_append_lies _ rfl _ _ _ rfl w.heap.size 47 i0 _ 11 104 Tryd.underlying33 hi0 hz0 hz1 hz2 rfl (by omega) u4 s.length _ rfl (HOq.out.alloc _) ⟨wq.heap.size, 0, none⟩ 1 1 (ruC ⟨YEARS, y, y, 2, 1, 0, d, r, 2, t.2.1, t.2.2⟩) rfl rfl (World.news_of_block (cs := (ruC ⟨YEARS, y, y, 2, 1, 0, d, r, 2, t.2.1, t.2.2⟩).toArray) (t := 47) (fr := (0, 0)) (heap_alloc_new wq _)) (by simp [Value.oneCell', ruC]) (by omega) (by unfold maxLen; omega) (by omega) (by have := HRq.out.size; simp; omega) (wq.heap.size + 1) (by simp) ?_; intro gg cap2 w6 hown1 hgrow hat hlt6))
                          exact ⟨⟨k + 1, by omega, by go_num, HS.out (byE_ok HD1.out HYr.out HPn.out HSv.out hlet.out), by rw [HT.out, HBR.out]; simpa using hown1, (HRq.out.alloc HRq.out.size _).trans (below_app (by have := HRq.out.size; simp; omega) (HOq.out.alloc _) hgrow)⟩, by simp [intOf]; omega⟩
                        · have hm3 : (m == 2) = false := by rw [beq_eq_false_iff_ne]; exact hm2
                          clear hlp hm2
                          go_wp2_with (first | (go_at_call 34; refine (u_IsAbbr t.2.2 ht2 _).mono ?_; rintro e w' ⟨rfl, rfl⟩; (first | rw [e2] | skip)) | (at_builtin; refine wpList_append_lies _ rfl _ _ _ rfl w.heap.size 47 i0 _ 11 104 Tryd.underlying33 hi0 hz0 hz1 hz2 rfl (by omega) u4 s.length _ rfl (HOq.out.alloc _) ⟨wq.heap.size, 0, none⟩ 1 1 (ruC ⟨YEARS, y, y, m, 1, 0, d, r, 2, t.2.1, t.2.2⟩) rfl rfl (World.news_of_block (cs := (ruC ⟨YEARS, y, y, m, 1, 0, d, r, 2, t.2.1, t.2.2⟩).toArray) (t := 47) (fr := (0, 0)) (heap_alloc_new wq _)) (by simp [Value.oneCell', ruC]) (by omega) (by unfold maxLen; omega) (by omega) (by have := HRq.out.size; simp; omega) (wq.heap.size + 1) (by simp) ?_; intro gg cap2 w6 hown1 hgrow hat hlt6))
                          exact ⟨⟨k + 1, by omega, by go_num, HS.out (byE_ok HD1.out HYr.out HPn.out HSv.out hlet.out), by rw [HT.out, HBR.out]; simpa using hown1, (HRq.out.alloc HRq.out.size _).trans (below_app (by have := HRq.out.size; simp; omega) (HOq.out.alloc _) hgrow)⟩, by simp [intOf]; omega⟩
                · have HX := Lib.hid (HA.out 1 (byE_save HD1.out HYr.out HPn.out hsv) (by decide))
                  rcases (show t.2.1 < 0 ∨ (0 ≤ t.2.1 ∧ 10800 < t.2.1) by omega) with hsv1 | ⟨hsv1, hsv2⟩
                  all_goals
                    clear hsv
                    go_wp2_with fail
                    go_ret2
                    exact by_bad HX.out (by decide) HRq.out
          · have HX := Lib.hid (HA.out 1 (byE_year (by rw [HN.out, HY.out]; exact hyr)) (by decide))
            rcases (show y < 1900 ∨ (1900 ≤ y ∧ 2100 < y) by omega) with hy1 | ⟨hy1, hy2⟩
            all_goals
              clear hyr
              go_wp2_with fail
              refine (HC.out _).mono ?_
              rintro e w3 ⟨rfl, rfl⟩
              go_wp2_with fail
              go_ret2
              exact by_bad HX.out (by decide) HR2.out
      · obtain rfl : k = l.length := by omega
        rw [List.take_length] at hO
        have HX := Lib.hid (byErr_all h40 (fun j hj => hN j hj hj))
        have HX2 := Lib.hid (show byRs l = l.map byRule by rw [byRs, if_pos HX.out])
        obtain ⟨A2, cap2, rfl, g1, g2, hA2⟩ := own_at (xss := (l.map byRule).map ruC) (by simpa using hO) (by intro xs hx; obtain ⟨t, _, rfl⟩ := List.mem_map.1 hx; rfl)
        have HA2 := Lib.hid hA2
        clear hO HO hN HN hbr hA2
        go_wp2_with fail
        go_ret2
        exact ⟨A2, cap2, by rw [HX.out, HX2.out]; simp, by rw [HX2.out]; exact HA2.out, by rw [HX2.out]; simpa using g1, g2, HR.out⟩
end Go.Proofs.YtgnodiegippkeaaDoor
