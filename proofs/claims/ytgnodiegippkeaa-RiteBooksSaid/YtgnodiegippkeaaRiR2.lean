/- Walk of the reference's RiteCheck. -/
import Derived.Test.YtgnodiegippkeaaRiR
namespace Go.Proofs.Ytgnodiegippkeaa
open Go.RowKit
set_option linter.unusedVariables false
set_option maxRecDepth 100000 in
set_option maxHeartbeats 1000000 in
theorem r_RiteCheck_s1 (name also : ByteArray) (off aoff m1 k1 d1 a1 m2 k2 d2 a2 : Int) (hn : name.size ≤ maxLen) (hl : also.size ≤ maxLen) (h : wordB name.data.toList = false) (w : World) :
    Calls Try.prog 33 #[.agg #[.string name, .int .i64 off, .string also, .int .i64 aoff, .int .i64 m1, .int .i64 k1, .int .i64 d1, .int .i64 a1, .int .i64 m2, .int .i64 k2, .int .i64 d2, .int .i64 a2]] w fun e w' => e = .returned (.int .i64 (posE name off also aoff m1 k1 d1 a1 m2 k2 d2 a2)) ∧ Below w.heap.size w w' := by
  have HE := Lib.hid (pos_s (off := off) (aoff := aoff) (m1 := m1) (w1 := k1) (d1 := d1) (a1 := a1) (m2 := m2) (w2 := k2) (d2 := d2) (a2 := a2) (show posS name also = false by rw [posS, h]; rfl))
  go_enter Try.func33, Try.ntmps33
  go_wp2_with (first | (go_at_call 65; refine (r_isWord _ ?_ _).mono ?_; (first | exact hn | exact hl); rintro e w1 ⟨rfl, hb⟩; first | (obtain ⟨hcs, hz, hb'⟩ := boxc hb; clear hb) | (have K := keepc hcs hz hb' hb; clear hcs hz hb' hb; obtain ⟨hcs, hz, hb'⟩ := K)) | (go_at_call 50; refine (r_outside _ _ _ _).mono ?_; rintro e w' ⟨rfl, rfl⟩))
  go_ret
  exact ⟨ret_int HE.out.symm, hb'⟩
set_option maxRecDepth 100000 in
set_option maxHeartbeats 1000000 in
theorem r_RiteCheck_s2 (name also : ByteArray) (off aoff m1 k1 d1 a1 m2 k2 d2 a2 : Int) (hn : name.size ≤ maxLen) (hl : also.size ≤ maxLen) (h : wordB name.data.toList = true) (h0 : 1 ≤ also.size) (h1 : wordB also.data.toList = false) (w : World) :
    Calls Try.prog 33 #[.agg #[.string name, .int .i64 off, .string also, .int .i64 aoff, .int .i64 m1, .int .i64 k1, .int .i64 d1, .int .i64 a1, .int .i64 m2, .int .i64 k2, .int .i64 d2, .int .i64 a2]] w fun e w' => e = .returned (.int .i64 (posE name off also aoff m1 k1 d1 a1 m2 k2 d2 a2)) ∧ Below w.heap.size w w' := by
  have HE := Lib.hid (pos_s (off := off) (aoff := aoff) (m1 := m1) (w1 := k1) (d1 := d1) (a1 := a1) (m2 := m2) (w2 := k2) (d2 := d2) (a2 := a2) (show posS name also = false by rw [posS, h, h1, decide_eq_false (by omega)]; rfl))
  have e1 := ne_list h0
  have e2 := ne_isEmpty h0
  clear h0
  go_enter Try.func33, Try.ntmps33
  go_wp2_with (first | (go_at_call 65; refine (r_isWord _ ?_ _).mono ?_; (first | exact hn | exact hl); rintro e w1 ⟨rfl, hb⟩; first | (obtain ⟨hcs, hz, hb'⟩ := boxc hb; clear hb) | (have K := keepc hcs hz hb' hb; clear hcs hz hb' hb; obtain ⟨hcs, hz, hb'⟩ := K)) | (go_at_call 50; refine (r_outside _ _ _ _).mono ?_; rintro e w' ⟨rfl, rfl⟩))
  go_ret
  exact ⟨ret_int HE.out.symm, hb'⟩
set_option maxRecDepth 100000 in
set_option maxHeartbeats 1000000 in
theorem r_RiteCheck_oe (name also : ByteArray) (off aoff m1 k1 d1 a1 m2 k2 d2 a2 : Int) (hn : name.size ≤ maxLen) (hl : also.size ≤ maxLen) (h : wordB name.data.toList = true) (h0 : also.size = 0) (h2 : ¬ (-64800 ≤ off ∧ off ≤ 64800)) (w : World) :
    Calls Try.prog 33 #[.agg #[.string name, .int .i64 off, .string also, .int .i64 aoff, .int .i64 m1, .int .i64 k1, .int .i64 d1, .int .i64 a1, .int .i64 m2, .int .i64 k2, .int .i64 d2, .int .i64 a2]] w fun e w' => e = .returned (.int .i64 (posE name off also aoff m1 k1 d1 a1 m2 k2 d2 a2)) ∧ Below w.heap.size w w' := by
  have HS := posS_iff.2 ⟨h, Or.inl h0⟩
  have HE := Lib.hid (pos_o (aoff := aoff) (m1 := m1) (w1 := k1) (d1 := d1) (a1 := a1) (m2 := m2) (w2 := k2) (d2 := d2) (a2 := a2) HS h2)
  clear HS
  have e1 := em_list h0
  have e2 := em_isEmpty h0
  clear h0
  have h2' : off < -64800 ∨ (-64800 ≤ off ∧ 64800 < off) := by omega
  have hd : decide (-64800 ≤ off ∧ off ≤ 64800) = false := by simp; omega
  have hd' : decide (off < -64800 ∨ 64800 < off) = true := by simp; omega
  clear h2 h2'
  go_enter Try.func33, Try.ntmps33
  go_wp2_with (first | (go_at_call 65; refine (r_isWord _ ?_ _).mono ?_; (first | exact hn | exact hl); rintro e w1 ⟨rfl, hb⟩; first | (obtain ⟨hcs, hz, hb'⟩ := boxc hb; clear hb) | (have K := keepc hcs hz hb' hb; clear hcs hz hb' hb; obtain ⟨hcs, hz, hb'⟩ := K)) | (go_at_call 50; refine (r_outside _ _ _ _).mono ?_; rintro e w' ⟨rfl, rfl⟩))
  go_ret
  exact ⟨ret_int HE.out.symm, hb'⟩
set_option maxRecDepth 100000 in
set_option maxHeartbeats 1000000 in
theorem r_RiteCheck_oa (name also : ByteArray) (off aoff m1 k1 d1 a1 m2 k2 d2 a2 : Int) (hn : name.size ≤ maxLen) (hl : also.size ≤ maxLen) (h : wordB name.data.toList = true) (h0 : 1 ≤ also.size) (h1 : wordB also.data.toList = true) (h2 : ¬ (-64800 ≤ off ∧ off ≤ 64800)) (w : World) :
    Calls Try.prog 33 #[.agg #[.string name, .int .i64 off, .string also, .int .i64 aoff, .int .i64 m1, .int .i64 k1, .int .i64 d1, .int .i64 a1, .int .i64 m2, .int .i64 k2, .int .i64 d2, .int .i64 a2]] w fun e w' => e = .returned (.int .i64 (posE name off also aoff m1 k1 d1 a1 m2 k2 d2 a2)) ∧ Below w.heap.size w w' := by
  have HS := posS_iff.2 ⟨h, Or.inr h1⟩
  have HE := Lib.hid (pos_o (aoff := aoff) (m1 := m1) (w1 := k1) (d1 := d1) (a1 := a1) (m2 := m2) (w2 := k2) (d2 := d2) (a2 := a2) HS h2)
  clear HS
  have e1 := ne_list h0
  have e2 := ne_isEmpty h0
  clear h0
  have h2' : off < -64800 ∨ (-64800 ≤ off ∧ 64800 < off) := by omega
  have hd : decide (-64800 ≤ off ∧ off ≤ 64800) = false := by simp; omega
  have hd' : decide (off < -64800 ∨ 64800 < off) = true := by simp; omega
  clear h2 h2'
  go_enter Try.func33, Try.ntmps33
  go_wp2_with (first | (go_at_call 65; refine (r_isWord _ ?_ _).mono ?_; (first | exact hn | exact hl); rintro e w1 ⟨rfl, hb⟩; first | (obtain ⟨hcs, hz, hb'⟩ := boxc hb; clear hb) | (have K := keepc hcs hz hb' hb; clear hcs hz hb' hb; obtain ⟨hcs, hz, hb'⟩ := K)) | (go_at_call 50; refine (r_outside _ _ _ _).mono ?_; rintro e w' ⟨rfl, rfl⟩))
  go_ret
  exact ⟨ret_int HE.out.symm, hb'⟩
set_option maxRecDepth 100000 in
set_option maxHeartbeats 1000000 in
theorem r_RiteCheck_n (name also : ByteArray) (off aoff m1 k1 d1 a1 m2 k2 d2 a2 : Int) (hn : name.size ≤ maxLen) (hl : also.size ≤ maxLen) (h : wordB name.data.toList = true) (h0 : also.size = 0) (h2 : -64800 ≤ off ∧ off ≤ 64800) (w : World) :
    Calls Try.prog 33 #[.agg #[.string name, .int .i64 off, .string also, .int .i64 aoff, .int .i64 m1, .int .i64 k1, .int .i64 d1, .int .i64 a1, .int .i64 m2, .int .i64 k2, .int .i64 d2, .int .i64 a2]] w fun e w' => e = .returned (.int .i64 (posE name off also aoff m1 k1 d1 a1 m2 k2 d2 a2)) ∧ Below w.heap.size w w' := by
  have HS := posS_iff.2 ⟨h, Or.inl h0⟩
  have H5 := Lib.hid (fun h4 => pos_n5 (aoff := aoff) (m1 := m1) (w1 := k1) (d1 := d1) (a1 := a1) (m2 := m2) (w2 := k2) (d2 := d2) (a2 := a2) HS h2 h0 h4)
  have H0 := Lib.hid (fun h4 => pos_n0 (aoff := aoff) (m1 := m1) (w1 := k1) (d1 := d1) (a1 := a1) (m2 := m2) (w2 := k2) (d2 := d2) (a2 := a2) HS h2 h0 h4)
  clear HS
  have e1 := em_list h0
  have e2 := em_isEmpty h0
  clear h0
  have hd : decide (-64800 ≤ off ∧ off ≤ 64800) = true := by simp; omega
  have hd' : decide (off < -64800 ∨ 64800 < off) = false := by simp; omega
  clear h2
  go_enter Try.func33, Try.ntmps33
  go_wp2_with (first | (go_at_call 65; refine (r_isWord _ ?_ _).mono ?_; (first | exact hn | exact hl); rintro e w1 ⟨rfl, hb⟩; first | (obtain ⟨hcs, hz, hb'⟩ := boxc hb; clear hb) | (have K := keepc hcs hz hb' hb; clear hcs hz hb' hb; obtain ⟨hcs, hz, hb'⟩ := K)) | (go_at_call 50; refine (r_outside _ _ _ _).mono ?_; rintro e w' ⟨rfl, rfl⟩))
  all_goals
    go_ret
    refine ⟨ret_int ?_, hb'⟩
    first
      | (refine (H0.out ?_).symm; omega)
      | (refine (H5.out ?_).symm; omega)
set_option maxRecDepth 100000 in
set_option maxHeartbeats 1000000 in
theorem r_RiteCheck_a (name also : ByteArray) (off aoff m1 k1 d1 a1 m2 k2 d2 a2 : Int) (hn : name.size ≤ maxLen) (hl : also.size ≤ maxLen) (h : wordB name.data.toList = true) (h0 : 1 ≤ also.size) (h1 : wordB also.data.toList = true) (h2 : -64800 ≤ off ∧ off ≤ 64800) (h3 : ¬ (off + 1 ≤ aoff ∧ aoff ≤ off + 10800)) (w : World) :
    Calls Try.prog 33 #[.agg #[.string name, .int .i64 off, .string also, .int .i64 aoff, .int .i64 m1, .int .i64 k1, .int .i64 d1, .int .i64 a1, .int .i64 m2, .int .i64 k2, .int .i64 d2, .int .i64 a2]] w fun e w' => e = .returned (.int .i64 (posE name off also aoff m1 k1 d1 a1 m2 k2 d2 a2)) ∧ Below w.heap.size w w' := by
  have HS := posS_iff.2 ⟨h, Or.inr h1⟩
  have HE := Lib.hid (pos_a (m1 := m1) (w1 := k1) (d1 := d1) (a1 := a1) (m2 := m2) (w2 := k2) (d2 := d2) (a2 := a2) HS h2 (by omega) h3)
  clear HS
  have hd3 : decide (off + 1 ≤ aoff ∧ aoff ≤ off + 10800) = false := by simp; omega
  have hd4 : decide (aoff < off + 1 ∨ off + 10800 < aoff) = true := by simp; omega
  have h2a := h2.1
  have h2b := h2.2
  clear h3
  have e1 := ne_list h0
  have e2 := ne_isEmpty h0
  clear h0
  have hd : decide (-64800 ≤ off ∧ off ≤ 64800) = true := by simp; omega
  have hd' : decide (off < -64800 ∨ 64800 < off) = false := by simp; omega
  clear h2
  go_enter Try.func33, Try.ntmps33
  go_wp2_with (first | (go_at_call 65; refine (r_isWord _ ?_ _).mono ?_; (first | exact hn | exact hl); rintro e w1 ⟨rfl, hb⟩; first | (obtain ⟨hcs, hz, hb'⟩ := boxc hb; clear hb) | (have K := keepc hcs hz hb' hb; clear hcs hz hb' hb; obtain ⟨hcs, hz, hb'⟩ := K)) | (go_at_call 50; refine (r_outside _ _ _ _).mono ?_; rintro e w' ⟨rfl, rfl⟩))
  go_ret
  exact ⟨ret_int HE.out.symm, hb'⟩
set_option maxRecDepth 100000 in
set_option maxHeartbeats 1000000 in
theorem r_RiteCheck_l (name also : ByteArray) (off aoff m1 k1 d1 a1 m2 k2 d2 a2 : Int) (hn : name.size ≤ maxLen) (hl : also.size ≤ maxLen) (h : wordB name.data.toList = true) (h0 : 1 ≤ also.size) (h1 : wordB also.data.toList = true) (h2 : -64800 ≤ off ∧ off ≤ 64800) (h3 : off + 1 ≤ aoff ∧ aoff ≤ off + 10800) (w : World) :
    Calls Try.prog 33 #[.agg #[.string name, .int .i64 off, .string also, .int .i64 aoff, .int .i64 m1, .int .i64 k1, .int .i64 d1, .int .i64 a1, .int .i64 m2, .int .i64 k2, .int .i64 d2, .int .i64 a2]] w fun e w' => e = .returned (.int .i64 (posE name off also aoff m1 k1 d1 a1 m2 k2 d2 a2)) ∧ Below w.heap.size w w' := by
  have HS := posS_iff.2 ⟨h, Or.inr h1⟩
  have hne : ¬ also.size = 0 := by omega
  have H1 := Lib.hid (fun h5 => pos_1 (m1 := m1) (w1 := k1) (d1 := d1) (a1 := a1) (m2 := m2) (w2 := k2) (d2 := d2) (a2 := a2) HS h2 hne h3 h5)
  have H2 := Lib.hid (fun h5 h6 => pos_2 (m1 := m1) (w1 := k1) (d1 := d1) (a1 := a1) (m2 := m2) (w2 := k2) (d2 := d2) (a2 := a2) HS h2 hne h3 h5 h6)
  have H5 := Lib.hid (fun h5 h6 h7 => pos_5 (m1 := m1) (w1 := k1) (d1 := d1) (a1 := a1) (m2 := m2) (w2 := k2) (d2 := d2) (a2 := a2) HS h2 hne h3 h5 h6 h7)
  have H0 := Lib.hid (fun h5 h6 h7 => pos_0 (m1 := m1) (w1 := k1) (d1 := d1) (a1 := a1) (m2 := m2) (w2 := k2) (d2 := d2) (a2 := a2) HS h2 hne h3 h5 h6 h7)
  clear HS hne
  have hd3 : decide (off + 1 ≤ aoff ∧ aoff ≤ off + 10800) = true := by simp; omega
  have hd4 : decide (aoff < off + 1 ∨ off + 10800 < aoff) = false := by simp; omega
  have h2a := h2.1
  have h2b := h2.2
  clear h3
  have e1 := ne_list h0
  have e2 := ne_isEmpty h0
  clear h0
  have hd : decide (-64800 ≤ off ∧ off ≤ 64800) = true := by simp; omega
  have hd' : decide (off < -64800 ∨ 64800 < off) = false := by simp; omega
  clear h2
  go_enter Try.func33, Try.ntmps33
  go_wp2_with (first | (go_at_call 65; refine (r_isWord _ ?_ _).mono ?_; (first | exact hn | exact hl); rintro e w1 ⟨rfl, hb⟩; first | (obtain ⟨hcs, hz, hb'⟩ := boxc hb; clear hb) | (have K := keepc hcs hz hb' hb; clear hcs hz hb' hb; obtain ⟨hcs, hz, hb'⟩ := K)) | (go_at_call 50; refine (r_outside _ _ _ _).mono ?_; rintro e w' ⟨rfl, rfl⟩))
  have HK := RK.start (t := 55) (c8 := #[.int .i64 m1, .int .i64 k1, .int .i64 d1, .int .i64 a1, .int .i64 m2, .int .i64 k2, .int .i64 d2, .int .i64 a2]) hcs hz hb'
  clear hcs hz hb' hd3 hd4 hd hd' e1 e2
  go_loopw [48] (fun i wr => ∃ k : Nat, k ≤ 2 ∧ i = .int .i64 k ∧ Hid (1 ≤ k → riOk m1 k1 d1 a1 = true) ∧ Hid (2 ≤ k → riOk m2 k2 d2 a2 = true) ∧ RK w wr #[.string name, .int .i64 off, .string also, .int .i64 aoff, .int .i64 m1, .int .i64 k1, .int .i64 d1, .int .i64 a1, .int .i64 m2, .int .i64 k2, .int .i64 d2, .int .i64 a2] #[.int .i64 m1, .int .i64 k1, .int .i64 d1, .int .i64 a1, .int .i64 m2, .int .i64 k2, .int .i64 d2, .int .i64 a2] w1.heap.size) (fun i _ => 2 - (intOf i).toNat)
  case atStart => exact ⟨0, by omega, rfl, Lib.hid (fun h => absurd h (by decide)), Lib.hid (fun h => absurd h (by decide)), HK⟩
  case round =>
    clear HK
    obtain ⟨k, hk, rfl, G1, G2, HK⟩ := hrel
    have hcs := HK.1
    have hc8 := HK.2.2.2.1
    have hk3 : k = 0 ∨ k = 1 ∨ k = 2 := by omega
    rcases hk3 with rfl | rfl | rfl
    · clear G1 G2
      rcases ri_split m1 k1 d1 a1 with ⟨h5, q1, q2, q3, q4⟩ | ⟨h5, q⟩
      · have G' := Lib.hid h5
        clear h5
        go_wp2_with (first | (go_at_call 50; refine (r_outside _ _ _ _).mono ?_; rintro e w' ⟨rfl, rfl⟩))
        exact ⟨⟨1, by omega, by go_num, Lib.hid (fun _ => G'.out), Lib.hid (fun h => absurd h (by decide)), HK.alloc _⟩, by simp [intOf]⟩
      · have HE := Lib.hid (H1.out h5)
        clear h5
        rcases q with q1 | ⟨q1, q2⟩ | ⟨q1, q2, q3⟩ | ⟨q1, q2, q3, q4⟩
        all_goals
          go_wp2_with (first | (go_at_call 50; refine (r_outside _ _ _ _).mono ?_; rintro e w' ⟨rfl, rfl⟩))
          go_ret
          exact ⟨ret_int HE.out.symm, (HK.alloc _).2.2.1⟩
    · have G := Lib.hid (G1.out (by omega))
      clear G1 G2
      rcases ri_split m2 k2 d2 a2 with ⟨h5, q1, q2, q3, q4⟩ | ⟨h5, q⟩
      · have G' := Lib.hid h5
        clear h5
        go_wp2_with (first | (go_at_call 50; refine (r_outside _ _ _ _).mono ?_; rintro e w' ⟨rfl, rfl⟩))
        exact ⟨⟨2, by omega, by go_num, Lib.hid (fun _ => G.out), Lib.hid (fun _ => G'.out), HK.alloc _⟩, by simp [intOf]⟩
      · have HE := Lib.hid (H2.out G.out h5)
        clear h5
        rcases q with q1 | ⟨q1, q2⟩ | ⟨q1, q2, q3⟩ | ⟨q1, q2, q3, q4⟩
        all_goals
          go_wp2_with (first | (go_at_call 50; refine (r_outside _ _ _ _).mono ?_; rintro e w' ⟨rfl, rfl⟩))
          go_ret
          exact ⟨ret_int HE.out.symm, (HK.alloc _).2.2.1⟩
    · have J1 := Lib.hid (G1.out (by omega))
      have J2 := Lib.hid (G2.out (by omega))
      clear G1 G2
      by_cases h7 : m1 = m2
      · have HE := Lib.hid (H5.out J1.out J2.out h7)
        clear H1 H2 H5 H0
        subst h7
        go_wp2_with fail
        go_ret
        exact ⟨ret_int HE.out.symm, HK.2.2.1⟩
      · have HE := Lib.hid (H0.out J1.out J2.out h7)
        clear H1 H2 H5 H0
        go_wp2_with fail
        go_ret
        exact ⟨ret_int HE.out.symm, HK.2.2.1⟩
theorem r_RiteCheck (name also : ByteArray) (off aoff m1 k1 d1 a1 m2 k2 d2 a2 : Int) (hn : name.size ≤ maxLen) (hl : also.size ≤ maxLen) (w : World) :
    Calls Try.prog 33 #[.agg #[.string name, .int .i64 off, .string also, .int .i64 aoff, .int .i64 m1, .int .i64 k1, .int .i64 d1, .int .i64 a1, .int .i64 m2, .int .i64 k2, .int .i64 d2, .int .i64 a2]] w fun e w' => e = .returned (.int .i64 (posE name off also aoff m1 k1 d1 a1 m2 k2 d2 a2)) ∧ Below w.heap.size w w' := by
  cases h : wordB name.data.toList with
  | false => exact r_RiteCheck_s1 name also off aoff m1 k1 d1 a1 m2 k2 d2 a2 hn hl h w
  | true =>
    by_cases h0 : also.size = 0
    · by_cases h2 : -64800 ≤ off ∧ off ≤ 64800
      · exact r_RiteCheck_n name also off aoff m1 k1 d1 a1 m2 k2 d2 a2 hn hl h h0 h2 w
      · exact r_RiteCheck_oe name also off aoff m1 k1 d1 a1 m2 k2 d2 a2 hn hl h h0 h2 w
    · cases h1 : wordB also.data.toList with
      | false => exact r_RiteCheck_s2 name also off aoff m1 k1 d1 a1 m2 k2 d2 a2 hn hl h (by omega) h1 w
      | true =>
        by_cases h2 : -64800 ≤ off ∧ off ≤ 64800
        · by_cases h3 : off + 1 ≤ aoff ∧ aoff ≤ off + 10800
          · exact r_RiteCheck_l name also off aoff m1 k1 d1 a1 m2 k2 d2 a2 hn hl h (by omega) h1 h2 h3 w
          · exact r_RiteCheck_a name also off aoff m1 k1 d1 a1 m2 k2 d2 a2 hn hl h (by omega) h1 h2 h3 w
        · exact r_RiteCheck_oa name also off aoff m1 k1 d1 a1 m2 k2 d2 a2 hn hl h (by omega) h1 h2 w
end Go.Proofs.Ytgnodiegippkeaa
