/-
  Contracts of the functions that read bit strings.
-/
import Derived.Test.YtfbanjmooknafaaW
namespace Go.Proofs.Ytfbanjmooknafaa
open Go.RowKit
set_option linter.unusedSimpArgs false
set_option linter.unusedVariables false
set_option maxRecDepth 100000

theorem c_implIsBits (s : ByteArray) (w : World) (hs : s.size ≤ maxLen) : Calls Try.prog 68 #[.string s] w fun e w' => e = .returned (.bool (P.isBits (B s))) ∧ w = w' := by
  unfold maxLen at hs
  have hl := B_len s
  by_cases h64 : 64 < s.size
  · have HF := Lib.hid (P.isBits_long (l := B s) (by omega))
    go_enter Try.func68, Try.ntmps68
    go_wp2
    go_ret
    exact ⟨ret_bool HF.out.symm, rfl⟩
  · go_enter Try.func68, Try.ntmps68
    go_wp2
    go_loop [3] (fun i => ∃ k : Nat, k ≤ s.size ∧ i = .int .i64 k ∧ ((B s).take k).all P.bitB = true) (fun i => s.size - (intOf i).toNat)
    case atStart => exact ⟨0, Nat.zero_le _, rfl, rfl⟩
    case round =>
      obtain ⟨k, hk, rfl, hal⟩ := hrel
      have HAL := Lib.hid hal
      clear hal
      by_cases hlt : k < s.size
      · have hb : (s[k]).toNat < 256 := s[k].toNat_lt
        by_cases h0 : (s[k]).toNat = 48
        · have e0 : (((s[k]).toNat : Int) != 48) = false := by rw [bne_eq_false_iff_eq]; omega
          have HN := Lib.hid (P.take_all_true HAL.out (by rw [hl]; exact hlt) ((P.bitB_iff _).2 (.inl (UInt8.toNat_inj.1 h0))))
          clear h0
          go_wp2
          go_round
          case rel => exact ⟨k + 1, by omega, by go_num, HN.out⟩
          case measure => simp [intOf]; omega
        · have e0 : (((s[k]).toNat : Int) != 48) = true := by rw [bne_iff_ne]; omega
          by_cases h1 : (s[k]).toNat = 49
          · have e1 : (((s[k]).toNat : Int) != 49) = false := by rw [bne_eq_false_iff_eq]; omega
            have HN := Lib.hid (P.take_all_true HAL.out (by rw [hl]; exact hlt) ((P.bitB_iff _).2 (.inr (UInt8.toNat_inj.1 h1))))
            clear h0 h1
            go_wp2
            go_round
            case rel => exact ⟨k + 1, by omega, by go_num, HN.out⟩
            case measure => simp [intOf]; omega
          · have e1 : (((s[k]).toNat : Int) != 49) = true := by rw [bne_iff_ne]; omega
            have HF := Lib.hid (P.isBits_bad (l := B s) (k := k) (by rw [hl]; exact hlt) (by
              rw [Bool.eq_false_iff]; intro e
              rcases (P.bitB_iff _).1 e with e | e
              · exact h0 (congrArg UInt8.toNat e)
              · exact h1 (congrArg UInt8.toNat e)))
            clear h0 h1
            go_wp2
            go_ret
            exact ⟨ret_bool HF.out.symm, rfl⟩
      · have HT := Lib.hid (P.isBits_yes (l := B s) (by omega) (by have := HAL.out; rwa [take_all s k hlt] at this))
        go_wp2
        go_ret
        first | exact ⟨ret_bool HT.out.symm, rfl⟩ | exact ⟨ret_bool (by rw [HT.out]; simp; omega), rfl⟩
theorem c_l2Good (s : ByteArray) (w : World) (hs : s.size ≤ maxLen) : Calls Try.prog 149 #[.string s] w fun e w' => e = .returned (.bool (P.isBits (B s))) ∧ w = w' := by
  unfold maxLen at hs
  have hl := B_len s
  by_cases h64 : 64 < s.size
  · have HF := Lib.hid (P.isBits_long (l := B s) (by omega))
    go_enter Try.func149, Try.ntmps149
    go_wp2
    go_loop [3] (fun i => ∃ k : Nat, k ≤ s.size ∧ i = .int .i64 k) (fun i => s.size - (intOf i).toNat)
    case atStart => exact ⟨0, Nat.zero_le _, rfl⟩
    case round =>
      obtain ⟨k, hk, rfl⟩ := hrel
      by_cases hlt : k < s.size
      · have hb : (s[k]).toNat < 256 := s[k].toNat_lt
        by_cases h0 : (s[k]).toNat = 48
        · have e0 : (((s[k]).toNat : Int) != 48) = false := by rw [bne_eq_false_iff_eq]; omega
          clear h0
          go_wp2
          go_round
          case rel => exact ⟨k + 1, by omega, by go_num⟩
          case measure => simp [intOf]; omega
        · have e0 : (((s[k]).toNat : Int) != 48) = true := by rw [bne_iff_ne]; omega
          by_cases h1 : (s[k]).toNat = 49
          · have e1 : (((s[k]).toNat : Int) != 49) = false := by rw [bne_eq_false_iff_eq]; omega
            clear h0 h1
            go_wp2
            go_round
            case rel => exact ⟨k + 1, by omega, by go_num⟩
            case measure => simp [intOf]; omega
          · have e1 : (((s[k]).toNat : Int) != 49) = true := by rw [bne_iff_ne]; omega
            clear h0 h1
            go_wp2
            go_ret
            exact ⟨ret_bool HF.out.symm, rfl⟩
      · go_wp2
        go_ret
        exact ⟨ret_bool (by rw [HF.out]; simp; omega), rfl⟩
  · go_enter Try.func149, Try.ntmps149
    go_wp2
    go_loop [3] (fun i => ∃ k : Nat, k ≤ s.size ∧ i = .int .i64 k ∧ ((B s).take k).all P.bitB = true) (fun i => s.size - (intOf i).toNat)
    case atStart => exact ⟨0, Nat.zero_le _, rfl, rfl⟩
    case round =>
      obtain ⟨k, hk, rfl, hal⟩ := hrel
      have HAL := Lib.hid hal
      clear hal
      by_cases hlt : k < s.size
      · have hb : (s[k]).toNat < 256 := s[k].toNat_lt
        by_cases h0 : (s[k]).toNat = 48
        · have e0 : (((s[k]).toNat : Int) != 48) = false := by rw [bne_eq_false_iff_eq]; omega
          have HN := Lib.hid (P.take_all_true HAL.out (by rw [hl]; exact hlt) ((P.bitB_iff _).2 (.inl (UInt8.toNat_inj.1 h0))))
          clear h0
          go_wp2
          go_round
          case rel => exact ⟨k + 1, by omega, by go_num, HN.out⟩
          case measure => simp [intOf]; omega
        · have e0 : (((s[k]).toNat : Int) != 48) = true := by rw [bne_iff_ne]; omega
          by_cases h1 : (s[k]).toNat = 49
          · have e1 : (((s[k]).toNat : Int) != 49) = false := by rw [bne_eq_false_iff_eq]; omega
            have HN := Lib.hid (P.take_all_true HAL.out (by rw [hl]; exact hlt) ((P.bitB_iff _).2 (.inr (UInt8.toNat_inj.1 h1))))
            clear h0 h1
            go_wp2
            go_round
            case rel => exact ⟨k + 1, by omega, by go_num, HN.out⟩
            case measure => simp [intOf]; omega
          · have e1 : (((s[k]).toNat : Int) != 49) = true := by rw [bne_iff_ne]; omega
            have HF := Lib.hid (P.isBits_bad (l := B s) (k := k) (by rw [hl]; exact hlt) (by
              rw [Bool.eq_false_iff]; intro e
              rcases (P.bitB_iff _).1 e with e | e
              · exact h0 (congrArg UInt8.toNat e)
              · exact h1 (congrArg UInt8.toNat e)))
            clear h0 h1
            go_wp2
            go_ret
            exact ⟨ret_bool HF.out.symm, rfl⟩
      · have HT := Lib.hid (P.isBits_yes (l := B s) (by omega) (by have := HAL.out; rwa [take_all s k hlt] at this))
        go_wp2
        go_ret
        first | exact ⟨ret_bool HT.out.symm, rfl⟩ | exact ⟨ret_bool (by rw [HT.out]; simp; omega), rfl⟩
theorem c_numberOf (s : ByteArray) (w : World) (hs : s.size ≤ 30) (hbits : (B s).all P.bitB = true) : Calls Try.prog 166 #[.string s] w fun e w' => e = .returned (.int .i64 (P.numL (B s))) ∧ w = w' := by
  have hl := B_len s
  have HB := Lib.hid hbits
  clear hbits
  go_enter Try.func166, Try.ntmps166
  go_wp2
  go_loop [3, 4] (fun n i => ∃ k : Nat, k ≤ s.size ∧ i = .int .i64 k ∧ n = .int .i64 (P.numL ((B s).take k))) (fun _ i => s.size - (intOf i).toNat)
  case atStart => exact ⟨0, Nat.zero_le _, rfl, rfl⟩
  case round =>
    obtain ⟨k, hk, rfl, rfl⟩ := hrel
    have hn := P.numL_lt30 (l := (B s).take k) (by rw [List.length_take]; omega)
    by_cases hlt : k < s.size
    · have hbit := P.bv_nat (P.bit_at HB.out (k := k) (by rw [hl]; exact hlt))
      have hbv := P.bv_lt (s[k])
      have hb1 : 48 ≤ (s[k]).toNat := by rw [← B_get s k hlt]; omega
      have hb2 : (s[k]).toNat ≤ 49 := by rw [← B_get s k hlt]; have := P.bv_lt ((B s)[k]'(by rw [hl]; exact hlt)); omega
      have HS := Lib.hid (show P.numL ((B s).take (k + 1)) = 2 * P.numL ((B s).take k) + ((s[k]).toNat - 48) by
        rw [take_snoc s k hlt, P.numL_snoc]
        have := P.bv_nat (P.bit_at HB.out (k := k) (by rw [hl]; exact hlt))
        rw [B_get s k hlt] at this
        omega)
      clear hbit hbv
      go_wp2
      all_goals
        go_round
        case rel => exact ⟨k + 1, by omega, by go_num, by rw [HS.out]; go_num⟩
        case measure => simp [intOf]; omega
    · go_wp2
      go_ret
      exact ⟨ret_int (by rw [take_all s k hlt]), rfl⟩
theorem c_l2Number (s : ByteArray) (w : World) (hs : s.size ≤ 30) (hbits : (B s).all P.bitB = true) : Calls Try.prog 173 #[.string s] w fun e w' => e = .returned (.int .i64 (P.numL (B s))) ∧ w = w' := by
  have hl := B_len s
  have HB := Lib.hid hbits
  clear hbits
  go_enter Try.func173, Try.ntmps173
  go_wp2
  go_loop [3, 4] (fun n i => ∃ k : Nat, k ≤ s.size ∧ i = .int .i64 k ∧ n = .int .i64 (P.numL ((B s).take k))) (fun _ i => s.size - (intOf i).toNat)
  case atStart => exact ⟨0, Nat.zero_le _, rfl, rfl⟩
  case round =>
    obtain ⟨k, hk, rfl, rfl⟩ := hrel
    have hn := P.numL_lt30 (l := (B s).take k) (by rw [List.length_take]; omega)
    by_cases hlt : k < s.size
    · have hbit := P.bv_nat (P.bit_at HB.out (k := k) (by rw [hl]; exact hlt))
      have hbv := P.bv_lt (s[k])
      have hb1 : 48 ≤ (s[k]).toNat := by rw [← B_get s k hlt]; omega
      have hb2 : (s[k]).toNat ≤ 49 := by rw [← B_get s k hlt]; have := P.bv_lt ((B s)[k]'(by rw [hl]; exact hlt)); omega
      have HS := Lib.hid (show P.numL ((B s).take (k + 1)) = 2 * P.numL ((B s).take k) + ((s[k]).toNat - 48) by
        rw [take_snoc s k hlt, P.numL_snoc]
        have := P.bv_nat (P.bit_at HB.out (k := k) (by rw [hl]; exact hlt))
        rw [B_get s k hlt] at this
        omega)
      clear hbit hbv
      go_wp2
      all_goals
        go_round
        case rel => exact ⟨k + 1, by omega, by go_num, by rw [HS.out]; go_num⟩
        case measure => simp [intOf]; omega
    · go_wp2
      go_ret
      exact ⟨ret_int (by rw [take_all s k hlt]), rfl⟩
theorem c_ones (s : ByteArray) (w : World) (hs : s.size ≤ 64) : Calls Try.prog 157 #[.string s] w fun e w' => e = .returned (.int .i64 (P.onesL (B s))) ∧ w = w' := by
  have hl := B_len s
  go_enter Try.func157, Try.ntmps157
  go_wp2
  go_loop [3, 4] (fun n i => ∃ k : Nat, k ≤ s.size ∧ i = .int .i64 k ∧ n = .int .i64 (P.onesL ((B s).take k))) (fun _ i => s.size - (intOf i).toNat)
  case atStart => exact ⟨0, Nat.zero_le _, rfl, rfl⟩
  case round =>
    obtain ⟨k, hk, rfl, rfl⟩ := hrel
    have hn := P.onesL_le ((B s).take k)
    rw [List.length_take] at hn
    by_cases hlt : k < s.size
    · have hb : (s[k]).toNat < 256 := s[k].toNat_lt
      by_cases h1 : (s[k]).toNat = 49
      · have e1 : (((s[k]).toNat : Int) == 49) = true := beq_iff_eq.2 (by omega)
        have HS := Lib.hid (show P.onesL ((B s).take (k + 1)) = P.onesL ((B s).take k) + 1 by
          rw [take_snoc s k hlt, P.onesL_snoc, if_pos (UInt8.toNat_inj.1 h1)])
        clear h1
        go_wp2
        go_round
        case rel => exact ⟨k + 1, by omega, by go_num, by rw [HS.out]; go_num⟩
        case measure => simp [intOf]; omega
      · have e1 : (((s[k]).toNat : Int) == 49) = false := beq_eq_false_iff_ne.2 (by omega)
        have HS := Lib.hid (show P.onesL ((B s).take (k + 1)) = P.onesL ((B s).take k) by
          rw [take_snoc s k hlt, P.onesL_snoc, if_neg (fun e => h1 (congrArg UInt8.toNat e))]; rfl)
        clear h1
        go_wp2
        go_round
        case rel => exact ⟨k + 1, by omega, by go_num, by rw [HS.out]⟩
        case measure => simp [intOf]; omega
    · go_wp2
      go_ret
      exact ⟨ret_int (by rw [take_all s k hlt]), rfl⟩
theorem c_l2Ones (s : ByteArray) (w : World) (hs : s.size ≤ 64) : Calls Try.prog 179 #[.string s] w fun e w' => e = .returned (.int .i64 (P.onesL (B s))) ∧ w = w' := by
  have hl := B_len s
  go_enter Try.func179, Try.ntmps179
  go_wp2
  go_loop [3, 4] (fun n i => ∃ k : Nat, k ≤ s.size ∧ i = .int .i64 k ∧ n = .int .i64 (P.onesL ((B s).take k))) (fun _ i => s.size - (intOf i).toNat)
  case atStart => exact ⟨0, Nat.zero_le _, rfl, rfl⟩
  case round =>
    obtain ⟨k, hk, rfl, rfl⟩ := hrel
    have hn := P.onesL_le ((B s).take k)
    rw [List.length_take] at hn
    by_cases hlt : k < s.size
    · have hb : (s[k]).toNat < 256 := s[k].toNat_lt
      by_cases h1 : (s[k]).toNat = 49
      · have e1 : (((s[k]).toNat : Int) == 49) = true := beq_iff_eq.2 (by omega)
        have HS := Lib.hid (show P.onesL ((B s).take (k + 1)) = P.onesL ((B s).take k) + 1 by
          rw [take_snoc s k hlt, P.onesL_snoc, if_pos (UInt8.toNat_inj.1 h1)])
        clear h1
        go_wp2
        go_round
        case rel => exact ⟨k + 1, by omega, by go_num, by rw [HS.out]; go_num⟩
        case measure => simp [intOf]; omega
      · have e1 : (((s[k]).toNat : Int) == 49) = false := beq_eq_false_iff_ne.2 (by omega)
        have HS := Lib.hid (show P.onesL ((B s).take (k + 1)) = P.onesL ((B s).take k) by
          rw [take_snoc s k hlt, P.onesL_snoc, if_neg (fun e => h1 (congrArg UInt8.toNat e))]; rfl)
        clear h1
        go_wp2
        go_round
        case rel => exact ⟨k + 1, by omega, by go_num, by rw [HS.out]⟩
        case measure => simp [intOf]; omega
    · go_wp2
      go_ret
      exact ⟨ret_int (by rw [take_all s k hlt]), rfl⟩
end Go.Proofs.Ytfbanjmooknafaa
