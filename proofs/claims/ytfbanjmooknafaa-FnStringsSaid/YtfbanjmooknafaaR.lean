/-
  Contracts of the functions that read decimal text.
-/
import Derived.Test.YtfbanjmooknafaaT
import Derived.Test.YtfbanjmooknafaaC1
namespace Go.Proofs.Ytfbanjmooknafaa
open Go.RowKit
set_option linter.unusedSimpArgs false
set_option linter.unusedVariables false

theorem c_l1Read_neg (s : ByteArray) (w : World) (hs : s.size ≤ maxLen) (h1 : 1 < s.size) (h45 : (s[0]'(by omega)).toNat = 45) :
    Calls Try.prog 162 #[.string s] w fun e w' => e = .returned (.tuple #[.int .i64 (P.piI (B s)), .bool (P.okP (B s))]) ∧ Qt w w' := by
  unfold maxLen at hs
  have hls := B_len s
  obtain ⟨c0, hc0⟩ : ∃ c, c = s[0]'(by omega) := ⟨_, rfl⟩
  have hh := B_head s (by omega)
  rw [← hc0] at hh h45
  obtain ⟨t, hcut⟩ : ∃ t, s.extract 1 s.size = t := ⟨_, rfl⟩
  have hts : t.size = s.size - 1 := by rw [← hcut]; simp
  have hts' : t.size + 1 ≤ s.size := by omega
  have HT := Lib.hid (show P.rbody (B s) = B t by
    have hn : P.negB (B s) = true := by unfold P.negB; rw [hh]; simp; exact UInt8.toNat_inj.1 h45
    unfold P.rbody; rw [if_pos ⟨by omega, hn⟩, ← hcut, B_ext, List.take_of_length_le (by rw [List.length_drop]; omega)]; simp)
  have hz : (((s[0]'(by omega)).toNat : Int) == 45) = true := by rw [← hc0]; exact beq_iff_eq.2 (by omega)
  clear hh h45 hc0 hts
  have hl := B_len t
  have HF0 := Lib.hid (show ¬ P.rOk (B s) → P.okP (B s) = false from fun h => by rw [Bool.eq_false_iff]; intro e; exact h (P.okP_rOk e))
  by_cases hr : 1 ≤ t.size ∧ t.size ≤ 6
  · have hin : P.inB (t.size : Int) 1 6 = true := P.inB_iff.2 ⟨by omega, by omega⟩
    obtain ⟨hr1, hr2⟩ := hr
    go_enter Try.func162, Try.ntmps162
    go_wp2_with (first | (go_at_call 145; refine (c_l1In _ _ _ _).mono ?_; rintro e w' ⟨rfl, rfl⟩))
    go_loop [5, 6] (fun n i => ∃ k : Nat, k ≤ t.size ∧ i = .int .i64 k ∧ n = .int .i64 (P.val ((B t).take k)) ∧ ((B t).take k).all P.digB = true) (fun _ i => t.size - (intOf i).toNat)
    case atStart => exact ⟨0, Nat.zero_le _, rfl, rfl, rfl⟩
    case round =>
      obtain ⟨k, hk, rfl, rfl, hal⟩ := hrel
      have hv := P.val_lt 6 _ hal (by rw [List.length_take]; omega)
      have HAL := Lib.hid hal
      clear hal
      simp at hv
      by_cases hlt : k < t.size
      · have hb : (t[k]).toNat < 256 := t[k].toNat_lt
        by_cases hd : 48 ≤ (t[k]).toNat ∧ (t[k]).toNat ≤ 57
        · obtain ⟨hd1, hd2⟩ := hd
          have HS := Lib.hid (show P.val ((B t).take (k + 1)) = 10 * P.val ((B t).take k) + ((t[k]).toNat - 48) by rw [take_snoc t k hlt, P.val_snoc])
          have HN := Lib.hid (P.take_all_true HAL.out (by rw [hl]; exact hlt) ((P.digB_iff _).2 ⟨hd1, hd2⟩))
          go_wp2
          all_goals
            go_round
            case rel => exact ⟨k + 1, by omega, by go_num, by rw [HS.out]; go_num, HN.out⟩
            case measure => simp [intOf]; omega
        · have HF := Lib.hid (HF0.out (fun h => by
            have h3 := h.2.2.1
            rw [HT.out] at h3
            have := P.all_false (p := P.digB) (l := B t) (k := k) (by rw [hl]; exact hlt) (by rw [Bool.eq_false_iff]; intro e; exact hd ((P.digB_iff _).1 e))
            rw [h3] at this; simp at this))
          have hd' : (t[k]).toNat < 48 ∨ 57 < (t[k]).toNat := by omega
          clear hd
          rcases hd' with hd' | hd'
          all_goals
            go_wp2
            go_ret2
            exact ⟨ret_ib (by unfold P.piI; rw [HF.out]; rfl) HF.out.symm, Qt.refl _⟩
      · have HTK := Lib.hid (take_all t k hlt)
        obtain ⟨v, hvv⟩ : ∃ v, P.val ((B t).take k) = v := ⟨_, rfl⟩
        have HSG := Lib.hid (show P.rsg (B s) = (-(v:Int)) by
          rw [← hvv, HTK.out]
          unfold P.rsg; rw [HT.out, hl]; try rw [hls]
          first | rw [if_pos (by omega)] | rw [if_neg (by omega)])
        have HALL := Lib.hid (show (B t).all P.digB = true by have := HAL.out; rwa [HTK.out] at this)
        rw [hvv] at hv
        clear HAL
        by_cases hc : P.txt (-(v:Int)) = B s
        · have hcmp := cmp_eq (a := bs (P.txt (-(v:Int)))) (b := s) hc
          have HOK := Lib.hid (P.rOk_okP (l := B s) ⟨by rw [HT.out, hl]; exact hr1, by rw [HT.out, hl]; exact hr2, by rw [HT.out]; exact HALL.out, by rw [HSG.out]; exact hc⟩)
          clear hc
          go_wp2_with (go_at_call 160; refine (c_l1Num _ _ (by omega) (by omega)).mono ?_; rintro e w' ⟨rfl, hq⟩)
          go_ret2
          exact ⟨ret_ib (by unfold P.piI; rw [HOK.out.1, if_pos rfl, HOK.out.2, HSG.out]) HOK.out.1.symm, hq⟩
        · have hcmp := cmp_ne (a := bs (P.txt (-(v:Int)))) (b := s) hc
          have HF := Lib.hid (HF0.out (fun h => hc (by have := h.2.2.2; rwa [HSG.out] at this)))
          clear hc
          go_wp2_with (go_at_call 160; refine (c_l1Num _ _ (by omega) (by omega)).mono ?_; rintro e w' ⟨rfl, hq⟩)
          go_ret2
          exact ⟨ret_ib (by unfold P.piI; rw [HF.out]; rfl) HF.out.symm, hq⟩
  · have hin : P.inB (t.size : Int) 1 6 = false := P.inB_no.2 (by omega)
    have HF := Lib.hid (HF0.out (fun h => hr (by have h1 := h.1; have h2 := h.2.1; rw [HT.out, hl] at h1 h2; exact ⟨h1, h2⟩)))
    clear hr
    go_enter Try.func162, Try.ntmps162
    go_wp2_with (first | (go_at_call 145; refine (c_l1In _ _ _ _).mono ?_; rintro e w' ⟨rfl, rfl⟩))
    go_ret2
    exact ⟨ret_ib (by unfold P.piI; rw [HF.out]; rfl) HF.out.symm, Qt.refl _⟩
theorem c_l1Read_pos (s : ByteArray) (w : World) (hs : s.size ≤ maxLen) (h1 : 1 < s.size) (h45 : (s[0]'(by omega)).toNat ≠ 45) :
    Calls Try.prog 162 #[.string s] w fun e w' => e = .returned (.tuple #[.int .i64 (P.piI (B s)), .bool (P.okP (B s))]) ∧ Qt w w' := by
  unfold maxLen at hs
  have hls := B_len s
  obtain ⟨c0, hc0⟩ : ∃ c, c = s[0]'(by omega) := ⟨_, rfl⟩
  have hh := B_head s (by omega)
  rw [← hc0] at hh h45
  have HT := Lib.hid (show P.rbody (B s) = B s by
    have hn : P.negB (B s) = false := by unfold P.negB; rw [hh]; apply beq_eq_false_iff_ne.2; intro e; injection e with e; exact h45 (by rw [e]; rfl)
    unfold P.rbody; rw [if_neg (by rw [hn]; simp)])
  have hz : (((s[0]'(by omega)).toNat : Int) == 45) = false := by rw [← hc0]; exact beq_eq_false_iff_ne.2 (by omega)
  clear hh h45 hc0
  have hl := B_len s
  have HF0 := Lib.hid (show ¬ P.rOk (B s) → P.okP (B s) = false from fun h => by rw [Bool.eq_false_iff]; intro e; exact h (P.okP_rOk e))
  by_cases hr : 1 ≤ s.size ∧ s.size ≤ 6
  · have hin : P.inB (s.size : Int) 1 6 = true := P.inB_iff.2 ⟨by omega, by omega⟩
    obtain ⟨hr1, hr2⟩ := hr
    go_enter Try.func162, Try.ntmps162
    go_wp2_with (first | (go_at_call 145; refine (c_l1In _ _ _ _).mono ?_; rintro e w' ⟨rfl, rfl⟩))
    go_loop [5, 6] (fun n i => ∃ k : Nat, k ≤ s.size ∧ i = .int .i64 k ∧ n = .int .i64 (P.val ((B s).take k)) ∧ ((B s).take k).all P.digB = true) (fun _ i => s.size - (intOf i).toNat)
    case atStart => exact ⟨0, Nat.zero_le _, rfl, rfl, rfl⟩
    case round =>
      obtain ⟨k, hk, rfl, rfl, hal⟩ := hrel
      have hv := P.val_lt 6 _ hal (by rw [List.length_take]; omega)
      have HAL := Lib.hid hal
      clear hal
      simp at hv
      by_cases hlt : k < s.size
      · have hb : (s[k]).toNat < 256 := s[k].toNat_lt
        by_cases hd : 48 ≤ (s[k]).toNat ∧ (s[k]).toNat ≤ 57
        · obtain ⟨hd1, hd2⟩ := hd
          have HS := Lib.hid (show P.val ((B s).take (k + 1)) = 10 * P.val ((B s).take k) + ((s[k]).toNat - 48) by rw [take_snoc s k hlt, P.val_snoc])
          have HN := Lib.hid (P.take_all_true HAL.out (by rw [hl]; exact hlt) ((P.digB_iff _).2 ⟨hd1, hd2⟩))
          go_wp2
          all_goals
            go_round
            case rel => exact ⟨k + 1, by omega, by go_num, by rw [HS.out]; go_num, HN.out⟩
            case measure => simp [intOf]; omega
        · have HF := Lib.hid (HF0.out (fun h => by
            have h3 := h.2.2.1
            rw [HT.out] at h3
            have := P.all_false (p := P.digB) (l := B s) (k := k) (by rw [hl]; exact hlt) (by rw [Bool.eq_false_iff]; intro e; exact hd ((P.digB_iff _).1 e))
            rw [h3] at this; simp at this))
          have hd' : (s[k]).toNat < 48 ∨ 57 < (s[k]).toNat := by omega
          clear hd
          rcases hd' with hd' | hd'
          all_goals
            go_wp2
            go_ret2
            exact ⟨ret_ib (by unfold P.piI; rw [HF.out]; rfl) HF.out.symm, Qt.refl _⟩
      · have HTK := Lib.hid (take_all s k hlt)
        obtain ⟨v, hvv⟩ : ∃ v, P.val ((B s).take k) = v := ⟨_, rfl⟩
        have HSG := Lib.hid (show P.rsg (B s) = (v:Int) by
          rw [← hvv, HTK.out]
          unfold P.rsg; rw [HT.out, hl]; try rw [hls]
          first | rw [if_pos (by omega)] | rw [if_neg (by omega)])
        have HALL := Lib.hid (show (B s).all P.digB = true by have := HAL.out; rwa [HTK.out] at this)
        rw [hvv] at hv
        clear HAL
        by_cases hc : P.txt (v:Int) = B s
        · have hcmp := cmp_eq (a := bs (P.txt (v:Int))) (b := s) hc
          have HOK := Lib.hid (P.rOk_okP (l := B s) ⟨by rw [HT.out, hl]; exact hr1, by rw [HT.out, hl]; exact hr2, by rw [HT.out]; exact HALL.out, by rw [HSG.out]; exact hc⟩)
          clear hc
          go_wp2_with (go_at_call 160; refine (c_l1Num _ _ (by omega) (by omega)).mono ?_; rintro e w' ⟨rfl, hq⟩)
          go_ret2
          exact ⟨ret_ib (by unfold P.piI; rw [HOK.out.1, if_pos rfl, HOK.out.2, HSG.out]) HOK.out.1.symm, hq⟩
        · have hcmp := cmp_ne (a := bs (P.txt (v:Int))) (b := s) hc
          have HF := Lib.hid (HF0.out (fun h => hc (by have := h.2.2.2; rwa [HSG.out] at this)))
          clear hc
          go_wp2_with (go_at_call 160; refine (c_l1Num _ _ (by omega) (by omega)).mono ?_; rintro e w' ⟨rfl, hq⟩)
          go_ret2
          exact ⟨ret_ib (by unfold P.piI; rw [HF.out]; rfl) HF.out.symm, hq⟩
  · have hin : P.inB (s.size : Int) 1 6 = false := P.inB_no.2 (by omega)
    have HF := Lib.hid (HF0.out (fun h => hr (by have h1 := h.1; have h2 := h.2.1; rw [HT.out, hl] at h1 h2; exact ⟨h1, h2⟩)))
    clear hr
    go_enter Try.func162, Try.ntmps162
    go_wp2_with (first | (go_at_call 145; refine (c_l1In _ _ _ _).mono ?_; rintro e w' ⟨rfl, rfl⟩))
    go_ret2
    exact ⟨ret_ib (by unfold P.piI; rw [HF.out]; rfl) HF.out.symm, Qt.refl _⟩
theorem c_l1Read_short (s : ByteArray) (w : World) (h1 : ¬ 1 < s.size) :
    Calls Try.prog 162 #[.string s] w fun e w' => e = .returned (.tuple #[.int .i64 (P.piI (B s)), .bool (P.okP (B s))]) ∧ Qt w w' := by
  have hls := B_len s
  have HT := Lib.hid (show P.rbody (B s) = B s by unfold P.rbody; rw [if_neg (by omega)])
  have hl := B_len s
  have HF0 := Lib.hid (show ¬ P.rOk (B s) → P.okP (B s) = false from fun h => by rw [Bool.eq_false_iff]; intro e; exact h (P.okP_rOk e))
  by_cases hr : 1 ≤ s.size ∧ s.size ≤ 6
  · have hin : P.inB (s.size : Int) 1 6 = true := P.inB_iff.2 ⟨by omega, by omega⟩
    obtain ⟨hr1, hr2⟩ := hr
    go_enter Try.func162, Try.ntmps162
    go_wp2_with (first | (go_at_call 145; refine (c_l1In _ _ _ _).mono ?_; rintro e w' ⟨rfl, rfl⟩))
    go_loop [5, 6] (fun n i => ∃ k : Nat, k ≤ s.size ∧ i = .int .i64 k ∧ n = .int .i64 (P.val ((B s).take k)) ∧ ((B s).take k).all P.digB = true) (fun _ i => s.size - (intOf i).toNat)
    case atStart => exact ⟨0, Nat.zero_le _, rfl, rfl, rfl⟩
    case round =>
      obtain ⟨k, hk, rfl, rfl, hal⟩ := hrel
      have hv := P.val_lt 6 _ hal (by rw [List.length_take]; omega)
      have HAL := Lib.hid hal
      clear hal
      simp at hv
      by_cases hlt : k < s.size
      · have hb : (s[k]).toNat < 256 := s[k].toNat_lt
        by_cases hd : 48 ≤ (s[k]).toNat ∧ (s[k]).toNat ≤ 57
        · obtain ⟨hd1, hd2⟩ := hd
          have HS := Lib.hid (show P.val ((B s).take (k + 1)) = 10 * P.val ((B s).take k) + ((s[k]).toNat - 48) by rw [take_snoc s k hlt, P.val_snoc])
          have HN := Lib.hid (P.take_all_true HAL.out (by rw [hl]; exact hlt) ((P.digB_iff _).2 ⟨hd1, hd2⟩))
          go_wp2
          all_goals
            go_round
            case rel => exact ⟨k + 1, by omega, by go_num, by rw [HS.out]; go_num, HN.out⟩
            case measure => simp [intOf]; omega
        · have HF := Lib.hid (HF0.out (fun h => by
            have h3 := h.2.2.1
            rw [HT.out] at h3
            have := P.all_false (p := P.digB) (l := B s) (k := k) (by rw [hl]; exact hlt) (by rw [Bool.eq_false_iff]; intro e; exact hd ((P.digB_iff _).1 e))
            rw [h3] at this; simp at this))
          have hd' : (s[k]).toNat < 48 ∨ 57 < (s[k]).toNat := by omega
          clear hd
          rcases hd' with hd' | hd'
          all_goals
            go_wp2
            go_ret2
            exact ⟨ret_ib (by unfold P.piI; rw [HF.out]; rfl) HF.out.symm, Qt.refl _⟩
      · have HTK := Lib.hid (take_all s k hlt)
        obtain ⟨v, hvv⟩ : ∃ v, P.val ((B s).take k) = v := ⟨_, rfl⟩
        have HSG := Lib.hid (show P.rsg (B s) = (v:Int) by
          rw [← hvv, HTK.out]
          unfold P.rsg; rw [HT.out, hl]; try rw [hls]
          first | rw [if_pos (by omega)] | rw [if_neg (by omega)])
        have HALL := Lib.hid (show (B s).all P.digB = true by have := HAL.out; rwa [HTK.out] at this)
        rw [hvv] at hv
        clear HAL
        by_cases hc : P.txt (v:Int) = B s
        · have hcmp := cmp_eq (a := bs (P.txt (v:Int))) (b := s) hc
          have HOK := Lib.hid (P.rOk_okP (l := B s) ⟨by rw [HT.out, hl]; exact hr1, by rw [HT.out, hl]; exact hr2, by rw [HT.out]; exact HALL.out, by rw [HSG.out]; exact hc⟩)
          clear hc
          go_wp2_with (go_at_call 160; refine (c_l1Num _ _ (by omega) (by omega)).mono ?_; rintro e w' ⟨rfl, hq⟩)
          go_ret2
          exact ⟨ret_ib (by unfold P.piI; rw [HOK.out.1, if_pos rfl, HOK.out.2, HSG.out]) HOK.out.1.symm, hq⟩
        · have hcmp := cmp_ne (a := bs (P.txt (v:Int))) (b := s) hc
          have HF := Lib.hid (HF0.out (fun h => hc (by have := h.2.2.2; rwa [HSG.out] at this)))
          clear hc
          go_wp2_with (go_at_call 160; refine (c_l1Num _ _ (by omega) (by omega)).mono ?_; rintro e w' ⟨rfl, hq⟩)
          go_ret2
          exact ⟨ret_ib (by unfold P.piI; rw [HF.out]; rfl) HF.out.symm, hq⟩
  · have hin : P.inB (s.size : Int) 1 6 = false := P.inB_no.2 (by omega)
    have HF := Lib.hid (HF0.out (fun h => hr (by have h1 := h.1; have h2 := h.2.1; rw [HT.out, hl] at h1 h2; exact ⟨h1, h2⟩)))
    clear hr
    go_enter Try.func162, Try.ntmps162
    go_wp2_with (first | (go_at_call 145; refine (c_l1In _ _ _ _).mono ?_; rintro e w' ⟨rfl, rfl⟩))
    go_ret2
    exact ⟨ret_ib (by unfold P.piI; rw [HF.out]; rfl) HF.out.symm, Qt.refl _⟩
theorem c_l1Read (s : ByteArray) (w : World) (hs : s.size ≤ maxLen) : Calls Try.prog 162 #[.string s] w fun e w' => e = .returned (.tuple #[.int .i64 (P.piI (B s)), .bool (P.okP (B s))]) ∧ Qt w w' := by
  by_cases h1 : 1 < s.size
  · by_cases h45 : (s[0]'(by omega)).toNat = 45
    · exact c_l1Read_neg s w hs h1 h45
    · exact c_l1Read_pos s w hs h1 h45
  · exact c_l1Read_short s w h1
theorem c_specParseInt (s : ByteArray) (w : World) (hs : s.size ≤ maxLen) : Calls Try.prog 49 #[.string s] w fun e w' => e = .returned (.tuple #[.int .i64 (P.piI (B s)), .bool (P.okP (B s))]) ∧ Qt w w' := by
  go_enter Try.func49, Try.ntmps49
  go_wp2_with (go_at_call 162; refine (c_l1Read s _ hs).mono ?_; rintro e w' ⟨rfl, hq⟩)
  go_ret2
  exact ⟨rfl, hq⟩
theorem c_implParseInt_neg (s : ByteArray) (w : World) (hs : s.size ≤ maxLen) (h1 : 0 < s.size) (h45 : (s[0]'(by omega)).toNat = 45) :
    Calls Try.prog 48 #[.string s] w fun e w' => e = .returned (.tuple #[.int .i64 (P.piI (B s)), .bool (P.okP (B s))]) ∧ w = w' := by
  unfold maxLen at hs
  have hls := B_len s
  obtain ⟨c0, hc0⟩ : ∃ c, c = s[0]'(by omega) := ⟨_, rfl⟩
  have hh := B_head s (by omega)
  rw [← hc0] at hh h45
  obtain ⟨t, hcut⟩ : ∃ t, s.extract 1 s.size = t := ⟨_, rfl⟩
  have hts0 : t.size = s.size - 1 := by rw [← hcut]; simp
  have hts : t.size ≤ maxLen := by unfold maxLen; omega
  have hn : P.negB (B s) = true := by unfold P.negB; rw [hh]; simp; exact UInt8.toNat_inj.1 h45
  have HT := Lib.hid (show P.body (B s) = B t by
    unfold P.body; rw [if_pos hn, ← hcut, B_ext, List.take_of_length_le (by rw [List.length_drop]; omega)]; simp)
  have HN := Lib.hid hn
  have hz0 : (((s[0]'(by omega)).toNat : Int) == 45) = true := by rw [← hc0]; exact beq_iff_eq.2 (by omega)
  clear hh h45 hc0 hts0 hn
  cases hnum : P.numB (B t) with
  | false =>
    have HF := Lib.hid (show P.okP (B s) = false by unfold P.okP; rw [HT.out, hnum]; rfl)
    go_enter Try.func48, Try.ntmps48
    go_wp2_with (go_at_call 161; refine (c_number t _ hts).mono ?_; rintro e w' ⟨rfl, rfl⟩)
    go_ret2
    exact ⟨ret_ib (by unfold P.piI; rw [HF.out]; rfl) HF.out.symm, rfl⟩
  | true =>
    obtain ⟨v, hv⟩ : ∃ v : Nat, P.val (B t) = v := ⟨_, rfl⟩
    have hI : P.numI (B t) = (v : Int) := by unfold P.numI; rw [hnum, if_pos rfl, hv]
    have hn9 := (P.numB_iff _).1 hnum
    have hv9 : v < 10 ^ 9 := by rw [← hv]; exact P.val_lt 9 _ hn9.2.2.1 hn9.2.1
    have HO := Lib.hid (show P.okP (B s) = (decide (v ≤ 999999) && !(decide (v = 0) && true)) by unfold P.okP; rw [HT.out, hnum, hv, HN.out]; rfl)
    have HSG := Lib.hid (show P.sg (B s) = (-(v:Int)) by unfold P.sg; rw [HN.out, HT.out, hv]; rfl)
    clear hv hn9
    by_cases h6 : 999999 < v
    · have HF := Lib.hid (show P.okP (B s) = false by rw [HO.out, decide_eq_false (by omega)]; rfl)
      go_enter Try.func48, Try.ntmps48
      go_wp2_with (go_at_call 161; refine (c_number t _ hts).mono ?_; rintro e w' ⟨rfl, rfl⟩)
      go_ret2
      exact ⟨ret_ib (by unfold P.piI; rw [HF.out]; rfl) HF.out.symm, rfl⟩
    · by_cases h0 : v < 1
      · have hz : ((v : Int) == 0) = true := beq_iff_eq.2 (by omega)
        have HV := Lib.hid (show v = 0 by omega)
        have HO2 := Lib.hid (show P.okP (B s) = !true by rw [HO.out, decide_eq_true (by omega), decide_eq_true HV.out]; rfl)
        go_enter Try.func48, Try.ntmps48
        go_wp2_with (go_at_call 161; refine (c_number t _ hts).mono ?_; rintro e w' ⟨rfl, rfl⟩)
        go_ret2
        exact ⟨ret_ib (by unfold P.piI; rw [HO2.out, HSG.out]; first | rfl | omega) (by rw [HO2.out]; rfl), rfl⟩
      · have hz : ((v : Int) == 0) = false := beq_eq_false_iff_ne.2 (by omega)
        have HO2 := Lib.hid (show P.okP (B s) = true by rw [HO.out, decide_eq_true (by omega), decide_eq_false (by omega)]; rfl)
        go_enter Try.func48, Try.ntmps48
        go_wp2_with (go_at_call 161; refine (c_number t _ hts).mono ?_; rintro e w' ⟨rfl, rfl⟩)
        go_ret2
        exact ⟨ret_ib (by unfold P.piI; rw [HO2.out, HSG.out]; first | rfl | (simp; done) | omega) HO2.out.symm, rfl⟩
theorem c_implParseInt_pos (s : ByteArray) (w : World) (hts : s.size ≤ maxLen) (h1 : 0 < s.size) (h45 : (s[0]'(by omega)).toNat ≠ 45) :
    Calls Try.prog 48 #[.string s] w fun e w' => e = .returned (.tuple #[.int .i64 (P.piI (B s)), .bool (P.okP (B s))]) ∧ w = w' := by
  have hs := hts
  unfold maxLen at hs
  have hls := B_len s
  obtain ⟨c0, hc0⟩ : ∃ c, c = s[0]'(by omega) := ⟨_, rfl⟩
  have hh := B_head s (by omega)
  rw [← hc0] at hh h45
  have hn : P.negB (B s) = false := by unfold P.negB; rw [hh]; apply beq_eq_false_iff_ne.2; intro e; injection e with e; exact h45 (by rw [e]; rfl)
  have HT := Lib.hid (show P.body (B s) = B s by unfold P.body; rw [if_neg (by rw [hn]; simp)])
  have HN := Lib.hid hn
  have hz0 : (((s[0]'(by omega)).toNat : Int) == 45) = false := by rw [← hc0]; exact beq_eq_false_iff_ne.2 (by omega)
  clear hh h45 hc0 hn
  cases hnum : P.numB (B s) with
  | false =>
    have HF := Lib.hid (show P.okP (B s) = false by unfold P.okP; rw [HT.out, hnum]; rfl)
    go_enter Try.func48, Try.ntmps48
    go_wp2_with (go_at_call 161; refine (c_number s _ hts).mono ?_; rintro e w' ⟨rfl, rfl⟩)
    go_ret2
    exact ⟨ret_ib (by unfold P.piI; rw [HF.out]; rfl) HF.out.symm, rfl⟩
  | true =>
    obtain ⟨v, hv⟩ : ∃ v : Nat, P.val (B s) = v := ⟨_, rfl⟩
    have hI : P.numI (B s) = (v : Int) := by unfold P.numI; rw [hnum, if_pos rfl, hv]
    have hn9 := (P.numB_iff _).1 hnum
    have hv9 : v < 10 ^ 9 := by rw [← hv]; exact P.val_lt 9 _ hn9.2.2.1 hn9.2.1
    have HO := Lib.hid (show P.okP (B s) = (decide (v ≤ 999999) && !(decide (v = 0) && false)) by unfold P.okP; rw [HT.out, hnum, hv, HN.out]; rfl)
    have HSG := Lib.hid (show P.sg (B s) = (v:Int) by unfold P.sg; rw [HN.out, HT.out, hv]; rfl)
    clear hv hn9
    by_cases h6 : 999999 < v
    · have HF := Lib.hid (show P.okP (B s) = false by rw [HO.out, decide_eq_false (by omega)]; rfl)
      go_enter Try.func48, Try.ntmps48
      go_wp2_with (go_at_call 161; refine (c_number s _ hts).mono ?_; rintro e w' ⟨rfl, rfl⟩)
      go_ret2
      exact ⟨ret_ib (by unfold P.piI; rw [HF.out]; rfl) HF.out.symm, rfl⟩
    · by_cases h0 : v < 1
      · have hz : ((v : Int) == 0) = true := beq_iff_eq.2 (by omega)
        have HV := Lib.hid (show v = 0 by omega)
        have HO2 := Lib.hid (show P.okP (B s) = !false by rw [HO.out, decide_eq_true (by omega), decide_eq_true HV.out]; rfl)
        go_enter Try.func48, Try.ntmps48
        go_wp2_with (go_at_call 161; refine (c_number s _ hts).mono ?_; rintro e w' ⟨rfl, rfl⟩)
        go_ret2
        exact ⟨ret_ib (by unfold P.piI; rw [HO2.out, HSG.out]; first | rfl | omega) (by rw [HO2.out]; rfl), rfl⟩
      · have hz : ((v : Int) == 0) = false := beq_eq_false_iff_ne.2 (by omega)
        have HO2 := Lib.hid (show P.okP (B s) = true by rw [HO.out, decide_eq_true (by omega), decide_eq_false (by omega)]; rfl)
        go_enter Try.func48, Try.ntmps48
        go_wp2_with (go_at_call 161; refine (c_number s _ hts).mono ?_; rintro e w' ⟨rfl, rfl⟩)
        go_ret2
        exact ⟨ret_ib (by unfold P.piI; rw [HO2.out, HSG.out]; first | rfl | (simp; done) | omega) HO2.out.symm, rfl⟩
theorem c_implParseInt_nil (s : ByteArray) (w : World) (h1 : ¬ 0 < s.size) :
    Calls Try.prog 48 #[.string s] w fun e w' => e = .returned (.tuple #[.int .i64 (P.piI (B s)), .bool (P.okP (B s))]) ∧ w = w' := by
  have hts : s.size ≤ maxLen := by omega
  have hnil : B s = [] := List.eq_nil_of_length_eq_zero (by rw [B_len]; omega)
  have HF := Lib.hid (show P.okP (B s) = false by rw [hnil]; rfl)
  have hnum : P.numB (B s) = false := by rw [hnil]; rfl
  clear hnil
  go_enter Try.func48, Try.ntmps48
  go_wp2_with (go_at_call 161; refine (c_number s _ hts).mono ?_; rintro e w' ⟨rfl, rfl⟩)
  go_ret2
  exact ⟨ret_ib (by unfold P.piI; rw [HF.out]; rfl) HF.out.symm, rfl⟩
theorem c_implParseInt (s : ByteArray) (w : World) (hs : s.size ≤ maxLen) : Calls Try.prog 48 #[.string s] w fun e w' => e = .returned (.tuple #[.int .i64 (P.piI (B s)), .bool (P.okP (B s))]) ∧ w = w' := by
  by_cases h1 : 0 < s.size
  · by_cases h45 : (s[0]'(by omega)).toNat = 45
    · exact c_implParseInt_neg s w hs h1 h45
    · exact c_implParseInt_pos s w hs h1 h45
  · exact c_implParseInt_nil s w h1
end Go.Proofs.Ytfbanjmooknafaa
