/-
  Contracts of SplitFlightName and NearestName, and the walks of their laws.
-/
import Derived.Test.YtfbanjmooknafaaNP
import Derived.Test.YtfbanjmooknafaaR
import Derived.Test.YtfbanjmooknafaaJ
import Derived.Test.YtfbanjmooknafaaPlain2
namespace Go.Proofs.Ytfbanjmooknafaa
open Go.RowKit
set_option linter.unusedSimpArgs false
set_option linter.unusedVariables false
set_option maxRecDepth 100000

theorem sf_no {l : List UInt8} (h : P.sfOk l = false) : P.sfS l = [] ∧ P.sfI l = 0 := by unfold P.sfS P.sfI; rw [h]; exact ⟨rfl, rfl⟩
theorem sf_yes {l : List UInt8} (h : P.sfOk l = true) : P.sfS l = l.take (P.ldK l) ∧ P.sfI l = P.val (P.sfR l) := by unfold P.sfS P.sfI; rw [h]; exact ⟨rfl, rfl⟩
theorem ext_R {s t : ByteArray} {k : Nat} (hK : P.ldK (B s) = k) (h : s.extract k s.size = t) : B t = P.sfR (B s) := by
  rw [← h, B_ext, List.take_of_length_le (by rw [List.length_drop, B_len]; omega)]; unfold P.sfR; rw [hK]
theorem ext_S {s u : ByteArray} {k : Nat} (h : s.extract 0 k = u) : B u = (B s).take k := by rw [← h, B_ext]; simp
theorem c_implSplitFlightName (s : ByteArray) (w : World) (hs : s.size ≤ maxLen) : Calls Try.prog 108 #[.string s] w fun e w' => e = .returned (.tuple #[.string (bs (P.sfS (B s))), .int .i64 (P.sfI (B s)), .bool (P.sfOk (B s))]) ∧ w = w' := by
  unfold maxLen at hs
  have hl := B_len s
  go_enter Try.func108, Try.ntmps108
  go_wp2
  go_loop [5] (fun i => ∃ k : Nat, k ≤ s.size ∧ i = .int .i64 k ∧ ((B s).take k).all P.letB = true) (fun i => s.size - (intOf i).toNat)
  case atStart => exact ⟨0, Nat.zero_le _, rfl, rfl⟩
  case round =>
    obtain ⟨k, hk, rfl, hal⟩ := hrel
    have HAL := Lib.hid hal
    clear hal
    by_cases hlt : k < s.size
    · cases hlb : P.letB s[k] with
      | true =>
        have HN := Lib.hid (P.take_all_true HAL.out (by rw [hl]; exact hlt) hlb)
        go_wp2_with (go_at_call 192; refine (c_isLetter _ _).mono ?_; rintro e w' ⟨rfl, rfl⟩)
        go_round
        case rel => exact ⟨k + 1, by omega, by go_num, HN.out⟩
        case measure => simp [intOf]; omega
      | false =>
        have HK := Lib.hid (show P.ldK (B s) = k from P.ldK_of HAL.out (by omega) (fun _ => hlb))
        obtain ⟨t, ht⟩ : ∃ t, s.extract k s.size = t := ⟨_, rfl⟩
        obtain ⟨u, hu⟩ : ∃ u, s.extract 0 k = u := ⟨_, rfl⟩
        have HT := Lib.hid (ext_R HK.out ht)
        have HU := Lib.hid (ext_S hu)
        have hts : t.size ≤ maxLen := by rw [← B_len, HT.out]; unfold P.sfR; rw [List.length_drop, hl]; unfold maxLen; omega
        obtain ⟨m, hm⟩ : ∃ m, P.numI (B t) = m := ⟨_, rfl⟩
        have HM := Lib.hid hm
        clear hm
        cases hnb : P.numB (B t) with
        | false =>
          have HF := Lib.hid (show P.sfOk (B s) = false by unfold P.sfOk; rw [← HT.out, hnb]; rfl)
          go_wp2_with (first | (go_at_call 192; refine (c_isLetter _ _).mono ?_; rintro e w' ⟨rfl, rfl⟩) | (go_at_call 161; refine (c_number t _ hts).mono ?_; rintro e w' ⟨rfl, rfl⟩; rw [HM.out, hnb]))
          go_ret3
          exact ⟨ret_sib (by rw [(sf_no HF.out).1]; rfl) (by rw [(sf_no HF.out).2]) HF.out.symm, rfl⟩
        | true =>
          have HV := Lib.hid (show m = (P.val (P.sfR (B s)) : Int) by rw [← HM.out, ← HT.out]; unfold P.numI; rw [hnb]; rfl)
          have HNB := Lib.hid hnb
          cases hk3 : P.inB (k : Int) 1 3 with
          | false =>
            have HF := Lib.hid (show P.sfOk (B s) = false by unfold P.sfOk; rw [HK.out, hk3]; simp)
            clear hnb
            go_wp2_with (first | (go_at_call 192; refine (c_isLetter _ _).mono ?_; rintro e w' ⟨rfl, rfl⟩) | (go_at_call 161; refine (c_number t _ hts).mono ?_; rintro e w' ⟨rfl, rfl⟩; rw [HM.out, HNB.out]) | (go_at_call 141; refine (c_within _ _ _ _).mono ?_; rintro e w' ⟨rfl, rfl⟩))
            go_ret3
            exact ⟨ret_sib (by rw [(sf_no HF.out).1]; rfl) (by rw [(sf_no HF.out).2]) HF.out.symm, rfl⟩
          | true =>
            cases hn4 : P.inB m 1 9999 with
            | false =>
              have HF := Lib.hid (show P.sfOk (B s) = false by unfold P.sfOk; rw [← HV.out, hn4]; simp)
              clear hnb
              go_wp2_with (first | (go_at_call 192; refine (c_isLetter _ _).mono ?_; rintro e w' ⟨rfl, rfl⟩) | (go_at_call 161; refine (c_number t _ hts).mono ?_; rintro e w' ⟨rfl, rfl⟩; rw [HM.out, HNB.out]) | (go_at_call 141; refine (c_within _ _ _ _).mono ?_; rintro e w' ⟨rfl, rfl⟩))
              go_ret3
              exact ⟨ret_sib (by rw [(sf_no HF.out).1]; rfl) (by rw [(sf_no HF.out).2]) HF.out.symm, rfl⟩
            | true =>
              have HY := Lib.hid (show P.sfOk (B s) = true from P.sfOk_iff.2 ⟨by rw [← HT.out]; exact HNB.out, by rw [HK.out]; exact hk3, by rw [← HV.out]; exact hn4⟩)
              clear hnb
              go_wp2_with (first | (go_at_call 192; refine (c_isLetter _ _).mono ?_; rintro e w' ⟨rfl, rfl⟩) | (go_at_call 161; refine (c_number t _ hts).mono ?_; rintro e w' ⟨rfl, rfl⟩; rw [HM.out, HNB.out]) | (go_at_call 141; refine (c_within _ _ _ _).mono ?_; rintro e w' ⟨rfl, rfl⟩))
              go_ret3
              exact ⟨ret_sib (by rw [B_bs, (sf_yes HY.out).1, HK.out, HU.out]) (by rw [(sf_yes HY.out).2, HV.out]) HY.out.symm, rfl⟩
    · have HK := Lib.hid (show P.ldK (B s) = k from P.ldK_of HAL.out (by omega) (fun h => absurd h (by omega)))
      obtain ⟨t, ht⟩ : ∃ t, s.extract k s.size = t := ⟨_, rfl⟩
      obtain ⟨u, hu⟩ : ∃ u, s.extract 0 k = u := ⟨_, rfl⟩
      have HT := Lib.hid (ext_R HK.out ht)
      have HU := Lib.hid (ext_S hu)
      have hts : t.size ≤ maxLen := by rw [← B_len, HT.out]; unfold P.sfR; rw [List.length_drop, hl]; unfold maxLen; omega
      obtain ⟨m, hm⟩ : ∃ m, P.numI (B t) = m := ⟨_, rfl⟩
      have HM := Lib.hid hm
      clear hm
      cases hnb : P.numB (B t) with
      | false =>
        have HF := Lib.hid (show P.sfOk (B s) = false by unfold P.sfOk; rw [← HT.out, hnb]; rfl)
        go_wp2_with (first | (go_at_call 192; refine (c_isLetter _ _).mono ?_; rintro e w' ⟨rfl, rfl⟩) | (go_at_call 161; refine (c_number t _ hts).mono ?_; rintro e w' ⟨rfl, rfl⟩; rw [HM.out, hnb]))
        go_ret3
        exact ⟨ret_sib (by rw [(sf_no HF.out).1]; rfl) (by rw [(sf_no HF.out).2]) HF.out.symm, rfl⟩
      | true =>
        have HV := Lib.hid (show m = (P.val (P.sfR (B s)) : Int) by rw [← HM.out, ← HT.out]; unfold P.numI; rw [hnb]; rfl)
        have HNB := Lib.hid hnb
        cases hk3 : P.inB (k : Int) 1 3 with
        | false =>
          have HF := Lib.hid (show P.sfOk (B s) = false by unfold P.sfOk; rw [HK.out, hk3]; simp)
          clear hnb
          go_wp2_with (first | (go_at_call 192; refine (c_isLetter _ _).mono ?_; rintro e w' ⟨rfl, rfl⟩) | (go_at_call 161; refine (c_number t _ hts).mono ?_; rintro e w' ⟨rfl, rfl⟩; rw [HM.out, HNB.out]) | (go_at_call 141; refine (c_within _ _ _ _).mono ?_; rintro e w' ⟨rfl, rfl⟩))
          go_ret3
          exact ⟨ret_sib (by rw [(sf_no HF.out).1]; rfl) (by rw [(sf_no HF.out).2]) HF.out.symm, rfl⟩
        | true =>
          cases hn4 : P.inB m 1 9999 with
          | false =>
            have HF := Lib.hid (show P.sfOk (B s) = false by unfold P.sfOk; rw [← HV.out, hn4]; simp)
            clear hnb
            go_wp2_with (first | (go_at_call 192; refine (c_isLetter _ _).mono ?_; rintro e w' ⟨rfl, rfl⟩) | (go_at_call 161; refine (c_number t _ hts).mono ?_; rintro e w' ⟨rfl, rfl⟩; rw [HM.out, HNB.out]) | (go_at_call 141; refine (c_within _ _ _ _).mono ?_; rintro e w' ⟨rfl, rfl⟩))
            go_ret3
            exact ⟨ret_sib (by rw [(sf_no HF.out).1]; rfl) (by rw [(sf_no HF.out).2]) HF.out.symm, rfl⟩
          | true =>
            have HY := Lib.hid (show P.sfOk (B s) = true from P.sfOk_iff.2 ⟨by rw [← HT.out]; exact HNB.out, by rw [HK.out]; exact hk3, by rw [← HV.out]; exact hn4⟩)
            clear hnb
            go_wp2_with (first | (go_at_call 192; refine (c_isLetter _ _).mono ?_; rintro e w' ⟨rfl, rfl⟩) | (go_at_call 161; refine (c_number t _ hts).mono ?_; rintro e w' ⟨rfl, rfl⟩; rw [HM.out, HNB.out]) | (go_at_call 141; refine (c_within _ _ _ _).mono ?_; rintro e w' ⟨rfl, rfl⟩))
            go_ret3
            exact ⟨ret_sib (by rw [B_bs, (sf_yes HY.out).1, HK.out, HU.out]) (by rw [(sf_yes HY.out).2, HV.out]) HY.out.symm, rfl⟩
theorem let_no {c : UInt8} (h : P.letB c = false) : c.toNat < 65 ∨ (65 ≤ c.toNat ∧ 90 < c.toNat) := by
  rcases Nat.lt_or_ge c.toNat 65 with h1 | h1
  · exact .inl h1
  · rcases Nat.lt_or_ge 90 c.toNat with h2 | h2
    · exact .inr ⟨h1, h2⟩
    · rw [(P.letB_iff _).2 ⟨h1, h2⟩] at h; cases h
theorem sf_bad {l : List UInt8} (h : ¬ P.sfOk l = true) : P.sfOk l = false := by simpa using h
theorem pi_ok {l : List UInt8} (h : P.okP l = true) : P.piI l = P.sg l := by unfold P.piI; rw [h]; rfl
set_option maxHeartbeats 1000000 in
theorem c_specSplitFlightName (s : ByteArray) (w : World) (hs : s.size ≤ maxLen) : Calls Try.prog 109 #[.string s] w fun e w' => e = .returned (.tuple #[.string (bs (P.sfS (B s))), .int .i64 (P.sfI (B s)), .bool (P.sfOk (B s))]) ∧ Qt w w' := by
  have HS0 := Lib.hid hs
  unfold maxLen at hs
  have hl := B_len s
  go_enter Try.func109, Try.ntmps109
  go_wp2
  go_loop [5] (fun i => ∃ k : Nat, k ≤ s.size ∧ i = .int .i64 k ∧ ((B s).take k).all P.letB = true) (fun i => s.size - (intOf i).toNat)
  case atStart => exact ⟨0, Nat.zero_le _, rfl, rfl⟩
  case round =>
    obtain ⟨k, hk, rfl, hal⟩ := hrel
    have HAL := Lib.hid hal
    clear hal
    by_cases hlt : k < s.size
    · cases hlb : P.letB s[k] with
      | true =>
        have HN := Lib.hid (P.take_all_true HAL.out (by rw [hl]; exact hlt) hlb)
        obtain ⟨h65, h90⟩ := (P.letB_iff _).1 hlb
        clear hlb
        go_wp2
        go_round
        case rel => exact ⟨k + 1, by omega, by go_num, HN.out⟩
        case measure => simp [intOf]; omega
      | false =>
        have HK := Lib.hid (show P.ldK (B s) = k from P.ldK_of HAL.out (by omega) (fun _ => hlb))
        rcases let_no hlb with h65 | ⟨h65, h90⟩
        · clear hlb
          obtain ⟨t, ht⟩ : ∃ t, s.extract k s.size = t := ⟨_, rfl⟩
          obtain ⟨u, hu⟩ : ∃ u, s.extract 0 k = u := ⟨_, rfl⟩
          have HT := Lib.hid (ext_R HK.out ht)
          have HU := Lib.hid (ext_S hu)
          have hts : t.size ≤ maxLen := by rw [← B_len, HT.out]; unfold P.sfR; rw [List.length_drop, hl]; unfold maxLen; omega
          obtain ⟨m, hm⟩ : ∃ m, P.piI (B t) = m := ⟨_, rfl⟩
          obtain ⟨o, ho⟩ : ∃ o, P.okP (B t) = o := ⟨_, rfl⟩
          have HM := Lib.hid hm
          have HO := Lib.hid ho
          clear hm ho
          cases hnm : P.nameB (B s) with
          | false =>
            have HF := Lib.hid (show P.sfOk (B s) = false from sf_bad fun h => by rw [(P.sf_to h).1] at hnm; cases hnm)
            have HNM := Lib.hid hnm
            clear hnm
            go_wp2_with (go_at_call 162; refine (c_l1Read t _ hts).mono ?_; rintro e w1 ⟨rfl, hq⟩; rw [HM.out, HO.out])
            go_quiet (first | (go_at_call 190; exact Calls.quiet_of_same ((c_l3Name s _ HS0.out).mono fun e w' h => ⟨h.1.trans (by rw [HNM.out]), h.2.symm⟩)) | (go_at_call 145; exact Calls.quiet_of_same ((c_l1In _ _ _ _).mono fun e w' h => ⟨h.1.trans (by first | rw [HK3.out] | rw [HN4.out]), h.2.symm⟩)) | (go_at_call 160; exact quiet_call (c_l1Num m _ (by omega) (by omega))))
            go_wp2
            go_ret3
            exact ⟨ret_sib (by rw [(sf_no HF.out).1]; rfl) (by rw [(sf_no HF.out).2]) HF.out.symm, hq.trans (Qt.of _ _)⟩
          | true =>
            have HNM := Lib.hid hnm
            clear hnm
            cases hk3 : P.inB (k : Int) 1 3 with
            | false =>
              have HF := Lib.hid (show P.sfOk (B s) = false by unfold P.sfOk; rw [HK.out, hk3]; simp)
              have HK3 := Lib.hid hk3
              clear hk3
              go_wp2_with (go_at_call 162; refine (c_l1Read t _ hts).mono ?_; rintro e w1 ⟨rfl, hq⟩; rw [HM.out, HO.out])
              go_quiet (first | (go_at_call 190; exact Calls.quiet_of_same ((c_l3Name s _ HS0.out).mono fun e w' h => ⟨h.1.trans (by rw [HNM.out]), h.2.symm⟩)) | (go_at_call 145; exact Calls.quiet_of_same ((c_l1In _ _ _ _).mono fun e w' h => ⟨h.1.trans (by first | rw [HK3.out] | rw [HN4.out]), h.2.symm⟩)) | (go_at_call 160; exact quiet_call (c_l1Num m _ (by omega) (by omega))))
              go_wp2
              go_ret3
              exact ⟨ret_sib (by rw [(sf_no HF.out).1]; rfl) (by rw [(sf_no HF.out).2]) HF.out.symm, hq.trans (Qt.of _ _)⟩
            | true =>
              have HK3 := Lib.hid hk3
              clear hk3
              cases o with
              | false =>
                have HF := Lib.hid (show P.sfOk (B s) = false from sf_bad fun h => by have h2 := (P.sf_to h).2.1; rw [← HT.out, HO.out] at h2; cases h2)
                go_wp2_with (go_at_call 162; refine (c_l1Read t _ hts).mono ?_; rintro e w1 ⟨rfl, hq⟩; rw [HM.out, HO.out])
                go_quiet (first | (go_at_call 190; exact Calls.quiet_of_same ((c_l3Name s _ HS0.out).mono fun e w' h => ⟨h.1.trans (by rw [HNM.out]), h.2.symm⟩)) | (go_at_call 145; exact Calls.quiet_of_same ((c_l1In _ _ _ _).mono fun e w' h => ⟨h.1.trans (by first | rw [HK3.out] | rw [HN4.out]), h.2.symm⟩)) | (go_at_call 160; exact quiet_call (c_l1Num m _ (by omega) (by omega))))
                go_wp2
                go_ret3
                exact ⟨ret_sib (by rw [(sf_no HF.out).1]; rfl) (by rw [(sf_no HF.out).2]) HF.out.symm, hq.trans (Qt.of _ _)⟩
              | true =>
                have HSG := Lib.hid (show P.sg (P.sfR (B s)) = m by rw [← HT.out, ← HM.out, pi_ok HO.out])
                cases hn4 : P.inB m 1 9999 with
                | false =>
                  have HF := Lib.hid (show P.sfOk (B s) = false from sf_bad fun h => by
                    have h2 := (P.sfOk_iff.1 h).2.2
                    rw [← (P.sf_to h).2.2.1, HSG.out, hn4] at h2; cases h2)
                  have HN4 := Lib.hid hn4
                  clear hn4
                  go_wp2_with (go_at_call 162; refine (c_l1Read t _ hts).mono ?_; rintro e w1 ⟨rfl, hq⟩; rw [HM.out, HO.out])
                  go_quiet (first | (go_at_call 190; exact Calls.quiet_of_same ((c_l3Name s _ HS0.out).mono fun e w' h => ⟨h.1.trans (by rw [HNM.out]), h.2.symm⟩)) | (go_at_call 145; exact Calls.quiet_of_same ((c_l1In _ _ _ _).mono fun e w' h => ⟨h.1.trans (by first | rw [HK3.out] | rw [HN4.out]), h.2.symm⟩)) | (go_at_call 160; exact quiet_call (c_l1Num m _ (by omega) (by omega))))
                  go_wp2
                  go_ret3
                  exact ⟨ret_sib (by rw [(sf_no HF.out).1]; rfl) (by rw [(sf_no HF.out).2]) HF.out.symm, hq.trans (Qt.of _ _)⟩
                | true =>
                  have HY := Lib.hid (show P.sfOk (B s) = true from P.sf_of (by rw [HK.out]; exact HK3.out) (by rw [← HT.out]; exact HO.out) (by rw [HSG.out]; exact hn4))
                  obtain ⟨m1, m2⟩ := P.inB_iff.1 hn4
                  have HN4 := Lib.hid hn4
                  clear hn4
                  have hcmp := cmp_eq (a := bs (P.txt m)) (b := t) (by rw [B_bs, HT.out]; have := (P.sf_to HY.out).2.2.2; rwa [HSG.out] at this)
                  have HV := Lib.hid (show m = (P.val (P.sfR (B s)) : Int) by rw [← HSG.out]; exact (P.sf_to HY.out).2.2.1)
                  go_wp2_with (go_at_call 162; refine (c_l1Read t _ hts).mono ?_; rintro e w1 ⟨rfl, hq⟩; rw [HM.out, HO.out])
                  go_quiet (first | (go_at_call 190; exact Calls.quiet_of_same ((c_l3Name s _ HS0.out).mono fun e w' h => ⟨h.1.trans (by rw [HNM.out]), h.2.symm⟩)) | (go_at_call 145; exact Calls.quiet_of_same ((c_l1In _ _ _ _).mono fun e w' h => ⟨h.1.trans (by first | rw [HK3.out] | rw [HN4.out]), h.2.symm⟩)) | (go_at_call 160; exact quiet_call (c_l1Num m _ (by omega) (by omega))))
                  go_wp2
                  go_ret3
                  exact ⟨ret_sib (by rw [B_bs, (sf_yes HY.out).1, HK.out, HU.out]) (by rw [(sf_yes HY.out).2, HV.out]) HY.out.symm, hq.trans (Qt.of _ _)⟩
        · clear hlb
          obtain ⟨t, ht⟩ : ∃ t, s.extract k s.size = t := ⟨_, rfl⟩
          obtain ⟨u, hu⟩ : ∃ u, s.extract 0 k = u := ⟨_, rfl⟩
          have HT := Lib.hid (ext_R HK.out ht)
          have HU := Lib.hid (ext_S hu)
          have hts : t.size ≤ maxLen := by rw [← B_len, HT.out]; unfold P.sfR; rw [List.length_drop, hl]; unfold maxLen; omega
          obtain ⟨m, hm⟩ : ∃ m, P.piI (B t) = m := ⟨_, rfl⟩
          obtain ⟨o, ho⟩ : ∃ o, P.okP (B t) = o := ⟨_, rfl⟩
          have HM := Lib.hid hm
          have HO := Lib.hid ho
          clear hm ho
          cases hnm : P.nameB (B s) with
          | false =>
            have HF := Lib.hid (show P.sfOk (B s) = false from sf_bad fun h => by rw [(P.sf_to h).1] at hnm; cases hnm)
            have HNM := Lib.hid hnm
            clear hnm
            go_wp2_with (go_at_call 162; refine (c_l1Read t _ hts).mono ?_; rintro e w1 ⟨rfl, hq⟩; rw [HM.out, HO.out])
            go_quiet (first | (go_at_call 190; exact Calls.quiet_of_same ((c_l3Name s _ HS0.out).mono fun e w' h => ⟨h.1.trans (by rw [HNM.out]), h.2.symm⟩)) | (go_at_call 145; exact Calls.quiet_of_same ((c_l1In _ _ _ _).mono fun e w' h => ⟨h.1.trans (by first | rw [HK3.out] | rw [HN4.out]), h.2.symm⟩)) | (go_at_call 160; exact quiet_call (c_l1Num m _ (by omega) (by omega))))
            go_wp2
            go_ret3
            exact ⟨ret_sib (by rw [(sf_no HF.out).1]; rfl) (by rw [(sf_no HF.out).2]) HF.out.symm, hq.trans (Qt.of _ _)⟩
          | true =>
            have HNM := Lib.hid hnm
            clear hnm
            cases hk3 : P.inB (k : Int) 1 3 with
            | false =>
              have HF := Lib.hid (show P.sfOk (B s) = false by unfold P.sfOk; rw [HK.out, hk3]; simp)
              have HK3 := Lib.hid hk3
              clear hk3
              go_wp2_with (go_at_call 162; refine (c_l1Read t _ hts).mono ?_; rintro e w1 ⟨rfl, hq⟩; rw [HM.out, HO.out])
              go_quiet (first | (go_at_call 190; exact Calls.quiet_of_same ((c_l3Name s _ HS0.out).mono fun e w' h => ⟨h.1.trans (by rw [HNM.out]), h.2.symm⟩)) | (go_at_call 145; exact Calls.quiet_of_same ((c_l1In _ _ _ _).mono fun e w' h => ⟨h.1.trans (by first | rw [HK3.out] | rw [HN4.out]), h.2.symm⟩)) | (go_at_call 160; exact quiet_call (c_l1Num m _ (by omega) (by omega))))
              go_wp2
              go_ret3
              exact ⟨ret_sib (by rw [(sf_no HF.out).1]; rfl) (by rw [(sf_no HF.out).2]) HF.out.symm, hq.trans (Qt.of _ _)⟩
            | true =>
              have HK3 := Lib.hid hk3
              clear hk3
              cases o with
              | false =>
                have HF := Lib.hid (show P.sfOk (B s) = false from sf_bad fun h => by have h2 := (P.sf_to h).2.1; rw [← HT.out, HO.out] at h2; cases h2)
                go_wp2_with (go_at_call 162; refine (c_l1Read t _ hts).mono ?_; rintro e w1 ⟨rfl, hq⟩; rw [HM.out, HO.out])
                go_quiet (first | (go_at_call 190; exact Calls.quiet_of_same ((c_l3Name s _ HS0.out).mono fun e w' h => ⟨h.1.trans (by rw [HNM.out]), h.2.symm⟩)) | (go_at_call 145; exact Calls.quiet_of_same ((c_l1In _ _ _ _).mono fun e w' h => ⟨h.1.trans (by first | rw [HK3.out] | rw [HN4.out]), h.2.symm⟩)) | (go_at_call 160; exact quiet_call (c_l1Num m _ (by omega) (by omega))))
                go_wp2
                go_ret3
                exact ⟨ret_sib (by rw [(sf_no HF.out).1]; rfl) (by rw [(sf_no HF.out).2]) HF.out.symm, hq.trans (Qt.of _ _)⟩
              | true =>
                have HSG := Lib.hid (show P.sg (P.sfR (B s)) = m by rw [← HT.out, ← HM.out, pi_ok HO.out])
                cases hn4 : P.inB m 1 9999 with
                | false =>
                  have HF := Lib.hid (show P.sfOk (B s) = false from sf_bad fun h => by
                    have h2 := (P.sfOk_iff.1 h).2.2
                    rw [← (P.sf_to h).2.2.1, HSG.out, hn4] at h2; cases h2)
                  have HN4 := Lib.hid hn4
                  clear hn4
                  go_wp2_with (go_at_call 162; refine (c_l1Read t _ hts).mono ?_; rintro e w1 ⟨rfl, hq⟩; rw [HM.out, HO.out])
                  go_quiet (first | (go_at_call 190; exact Calls.quiet_of_same ((c_l3Name s _ HS0.out).mono fun e w' h => ⟨h.1.trans (by rw [HNM.out]), h.2.symm⟩)) | (go_at_call 145; exact Calls.quiet_of_same ((c_l1In _ _ _ _).mono fun e w' h => ⟨h.1.trans (by first | rw [HK3.out] | rw [HN4.out]), h.2.symm⟩)) | (go_at_call 160; exact quiet_call (c_l1Num m _ (by omega) (by omega))))
                  go_wp2
                  go_ret3
                  exact ⟨ret_sib (by rw [(sf_no HF.out).1]; rfl) (by rw [(sf_no HF.out).2]) HF.out.symm, hq.trans (Qt.of _ _)⟩
                | true =>
                  have HY := Lib.hid (show P.sfOk (B s) = true from P.sf_of (by rw [HK.out]; exact HK3.out) (by rw [← HT.out]; exact HO.out) (by rw [HSG.out]; exact hn4))
                  obtain ⟨m1, m2⟩ := P.inB_iff.1 hn4
                  have HN4 := Lib.hid hn4
                  clear hn4
                  have hcmp := cmp_eq (a := bs (P.txt m)) (b := t) (by rw [B_bs, HT.out]; have := (P.sf_to HY.out).2.2.2; rwa [HSG.out] at this)
                  have HV := Lib.hid (show m = (P.val (P.sfR (B s)) : Int) by rw [← HSG.out]; exact (P.sf_to HY.out).2.2.1)
                  go_wp2_with (go_at_call 162; refine (c_l1Read t _ hts).mono ?_; rintro e w1 ⟨rfl, hq⟩; rw [HM.out, HO.out])
                  go_quiet (first | (go_at_call 190; exact Calls.quiet_of_same ((c_l3Name s _ HS0.out).mono fun e w' h => ⟨h.1.trans (by rw [HNM.out]), h.2.symm⟩)) | (go_at_call 145; exact Calls.quiet_of_same ((c_l1In _ _ _ _).mono fun e w' h => ⟨h.1.trans (by first | rw [HK3.out] | rw [HN4.out]), h.2.symm⟩)) | (go_at_call 160; exact quiet_call (c_l1Num m _ (by omega) (by omega))))
                  go_wp2
                  go_ret3
                  exact ⟨ret_sib (by rw [B_bs, (sf_yes HY.out).1, HK.out, HU.out]) (by rw [(sf_yes HY.out).2, HV.out]) HY.out.symm, hq.trans (Qt.of _ _)⟩
    · have HK := Lib.hid (show P.ldK (B s) = k from P.ldK_of HAL.out (by omega) (fun h => absurd h (by omega)))
      obtain ⟨t, ht⟩ : ∃ t, s.extract k s.size = t := ⟨_, rfl⟩
      obtain ⟨u, hu⟩ : ∃ u, s.extract 0 k = u := ⟨_, rfl⟩
      have HT := Lib.hid (ext_R HK.out ht)
      have HU := Lib.hid (ext_S hu)
      have hts : t.size ≤ maxLen := by rw [← B_len, HT.out]; unfold P.sfR; rw [List.length_drop, hl]; unfold maxLen; omega
      obtain ⟨m, hm⟩ : ∃ m, P.piI (B t) = m := ⟨_, rfl⟩
      obtain ⟨o, ho⟩ : ∃ o, P.okP (B t) = o := ⟨_, rfl⟩
      have HM := Lib.hid hm
      have HO := Lib.hid ho
      clear hm ho
      cases hnm : P.nameB (B s) with
      | false =>
        have HF := Lib.hid (show P.sfOk (B s) = false from sf_bad fun h => by rw [(P.sf_to h).1] at hnm; cases hnm)
        have HNM := Lib.hid hnm
        clear hnm
        go_wp2_with (go_at_call 162; refine (c_l1Read t _ hts).mono ?_; rintro e w1 ⟨rfl, hq⟩; rw [HM.out, HO.out])
        go_quiet (first | (go_at_call 190; exact Calls.quiet_of_same ((c_l3Name s _ HS0.out).mono fun e w' h => ⟨h.1.trans (by rw [HNM.out]), h.2.symm⟩)) | (go_at_call 145; exact Calls.quiet_of_same ((c_l1In _ _ _ _).mono fun e w' h => ⟨h.1.trans (by first | rw [HK3.out] | rw [HN4.out]), h.2.symm⟩)) | (go_at_call 160; exact quiet_call (c_l1Num m _ (by omega) (by omega))))
        go_wp2
        go_ret3
        exact ⟨ret_sib (by rw [(sf_no HF.out).1]; rfl) (by rw [(sf_no HF.out).2]) HF.out.symm, hq.trans (Qt.of _ _)⟩
      | true =>
        have HNM := Lib.hid hnm
        clear hnm
        cases hk3 : P.inB (k : Int) 1 3 with
        | false =>
          have HF := Lib.hid (show P.sfOk (B s) = false by unfold P.sfOk; rw [HK.out, hk3]; simp)
          have HK3 := Lib.hid hk3
          clear hk3
          go_wp2_with (go_at_call 162; refine (c_l1Read t _ hts).mono ?_; rintro e w1 ⟨rfl, hq⟩; rw [HM.out, HO.out])
          go_quiet (first | (go_at_call 190; exact Calls.quiet_of_same ((c_l3Name s _ HS0.out).mono fun e w' h => ⟨h.1.trans (by rw [HNM.out]), h.2.symm⟩)) | (go_at_call 145; exact Calls.quiet_of_same ((c_l1In _ _ _ _).mono fun e w' h => ⟨h.1.trans (by first | rw [HK3.out] | rw [HN4.out]), h.2.symm⟩)) | (go_at_call 160; exact quiet_call (c_l1Num m _ (by omega) (by omega))))
          go_wp2
          go_ret3
          exact ⟨ret_sib (by rw [(sf_no HF.out).1]; rfl) (by rw [(sf_no HF.out).2]) HF.out.symm, hq.trans (Qt.of _ _)⟩
        | true =>
          have HK3 := Lib.hid hk3
          clear hk3
          cases o with
          | false =>
            have HF := Lib.hid (show P.sfOk (B s) = false from sf_bad fun h => by have h2 := (P.sf_to h).2.1; rw [← HT.out, HO.out] at h2; cases h2)
            go_wp2_with (go_at_call 162; refine (c_l1Read t _ hts).mono ?_; rintro e w1 ⟨rfl, hq⟩; rw [HM.out, HO.out])
            go_quiet (first | (go_at_call 190; exact Calls.quiet_of_same ((c_l3Name s _ HS0.out).mono fun e w' h => ⟨h.1.trans (by rw [HNM.out]), h.2.symm⟩)) | (go_at_call 145; exact Calls.quiet_of_same ((c_l1In _ _ _ _).mono fun e w' h => ⟨h.1.trans (by first | rw [HK3.out] | rw [HN4.out]), h.2.symm⟩)) | (go_at_call 160; exact quiet_call (c_l1Num m _ (by omega) (by omega))))
            go_wp2
            go_ret3
            exact ⟨ret_sib (by rw [(sf_no HF.out).1]; rfl) (by rw [(sf_no HF.out).2]) HF.out.symm, hq.trans (Qt.of _ _)⟩
          | true =>
            have HSG := Lib.hid (show P.sg (P.sfR (B s)) = m by rw [← HT.out, ← HM.out, pi_ok HO.out])
            cases hn4 : P.inB m 1 9999 with
            | false =>
              have HF := Lib.hid (show P.sfOk (B s) = false from sf_bad fun h => by
                have h2 := (P.sfOk_iff.1 h).2.2
                rw [← (P.sf_to h).2.2.1, HSG.out, hn4] at h2; cases h2)
              have HN4 := Lib.hid hn4
              clear hn4
              go_wp2_with (go_at_call 162; refine (c_l1Read t _ hts).mono ?_; rintro e w1 ⟨rfl, hq⟩; rw [HM.out, HO.out])
              go_quiet (first | (go_at_call 190; exact Calls.quiet_of_same ((c_l3Name s _ HS0.out).mono fun e w' h => ⟨h.1.trans (by rw [HNM.out]), h.2.symm⟩)) | (go_at_call 145; exact Calls.quiet_of_same ((c_l1In _ _ _ _).mono fun e w' h => ⟨h.1.trans (by first | rw [HK3.out] | rw [HN4.out]), h.2.symm⟩)) | (go_at_call 160; exact quiet_call (c_l1Num m _ (by omega) (by omega))))
              go_wp2
              go_ret3
              exact ⟨ret_sib (by rw [(sf_no HF.out).1]; rfl) (by rw [(sf_no HF.out).2]) HF.out.symm, hq.trans (Qt.of _ _)⟩
            | true =>
              have HY := Lib.hid (show P.sfOk (B s) = true from P.sf_of (by rw [HK.out]; exact HK3.out) (by rw [← HT.out]; exact HO.out) (by rw [HSG.out]; exact hn4))
              obtain ⟨m1, m2⟩ := P.inB_iff.1 hn4
              have HN4 := Lib.hid hn4
              clear hn4
              have hcmp := cmp_eq (a := bs (P.txt m)) (b := t) (by rw [B_bs, HT.out]; have := (P.sf_to HY.out).2.2.2; rwa [HSG.out] at this)
              have HV := Lib.hid (show m = (P.val (P.sfR (B s)) : Int) by rw [← HSG.out]; exact (P.sf_to HY.out).2.2.1)
              go_wp2_with (go_at_call 162; refine (c_l1Read t _ hts).mono ?_; rintro e w1 ⟨rfl, hq⟩; rw [HM.out, HO.out])
              go_quiet (first | (go_at_call 190; exact Calls.quiet_of_same ((c_l3Name s _ HS0.out).mono fun e w' h => ⟨h.1.trans (by rw [HNM.out]), h.2.symm⟩)) | (go_at_call 145; exact Calls.quiet_of_same ((c_l1In _ _ _ _).mono fun e w' h => ⟨h.1.trans (by first | rw [HK3.out] | rw [HN4.out]), h.2.symm⟩)) | (go_at_call 160; exact quiet_call (c_l1Num m _ (by omega) (by omega))))
              go_wp2
              go_ret3
              exact ⟨ret_sib (by rw [B_bs, (sf_yes HY.out).1, HK.out, HU.out]) (by rw [(sf_yes HY.out).2, HV.out]) HY.out.symm, hq.trans (Qt.of _ _)⟩

end Go.Proofs.Ytfbanjmooknafaa
