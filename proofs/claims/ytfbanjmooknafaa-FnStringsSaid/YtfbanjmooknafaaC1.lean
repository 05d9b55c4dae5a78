/-
  Contracts of chapter 1 (strings and checksums): what each function returns, as a plain function of its arguments.
-/
import Derived.Test.YtfbanjmooknafaaKit
namespace Go.Proofs.Ytfbanjmooknafaa
open Go.RowKit
set_option linter.unusedSimpArgs false
set_option linter.unusedVariables false

theorem c_l1Sum (s : ByteArray) (w : World) (hs : s.size ≤ maxLen) : Calls Try.prog 211 #[.string s] w fun e w' => e = .returned (.int .i64 (P.ck (B s))) ∧ w = w' := by
  unfold maxLen at hs
  go_enter Try.func211, Try.ntmps211
  go_wp2
  go_loop [3, 4] (fun n i => ∃ k : Nat, k ≤ s.size ∧ i = .int .i64 k ∧ n = .int .i64 (P.ck ((B s).take k))) (fun _ i => s.size - (intOf i).toNat)
  case atStart => exact ⟨0, Nat.zero_le _, rfl, rfl⟩
  case round =>
    obtain ⟨k, hk, rfl, rfl⟩ := hrel
    have hd := P.ck_lt ((B s).take k)
    by_cases hlt : k < s.size
    · have hb : (s[k]).toNat < 256 := s[k].toNat_lt
      have HS := Lib.hid (show P.ck ((B s).take (k + 1)) = (41 * P.ck ((B s).take k) + (s[k]).toNat + 1) % 999979 by rw [take_snoc s k hlt, P.ck_snoc])
      go_wp2
      all_goals
        go_round
        case rel => exact ⟨k + 1, by omega, by go_num, by rw [HS.out]; go_num⟩
        case measure => simp [intOf]; omega
    · go_wp2
      go_ret
      exact ⟨ret_int (by rw [take_all s k hlt]), rfl⟩

theorem c_implChecksum (s : ByteArray) (w : World) (hs : s.size ≤ maxLen) : Calls Try.prog 163 #[.string s] w fun e w' => e = .returned (.tuple #[.int .i64 (P.ckI (B s)), .bool (P.ckOk (B s))]) ∧ w = w' := by
  have hl := B_len s
  by_cases h : s.size ≤ 4000
  · unfold maxLen at hs
    go_enter Try.func163, Try.ntmps163
    go_wp2
    go_loop [4, 5] (fun n i => ∃ k : Nat, k ≤ s.size ∧ i = .int .i64 k ∧ n = .int .i64 (P.ck ((B s).take k))) (fun _ i => s.size - (intOf i).toNat)
    case atStart => exact ⟨0, Nat.zero_le _, rfl, rfl⟩
    case round =>
      obtain ⟨k, hk, rfl, rfl⟩ := hrel
      have hd := P.ck_lt ((B s).take k)
      by_cases hlt : k < s.size
      · have hb : (s[k]).toNat < 256 := s[k].toNat_lt
        have HS := Lib.hid (show P.ck ((B s).take (k + 1)) = (41 * P.ck ((B s).take k) + (s[k]).toNat + 1) % 999979 by rw [take_snoc s k hlt, P.ck_snoc])
        go_wp2
        all_goals
          go_round
          case rel => exact ⟨k + 1, by omega, by go_num, by rw [HS.out]; go_num⟩
          case measure => simp [intOf]; omega
      · go_wp2
        go_ret2
        exact ⟨ret_ib (by unfold P.ckI; rw [hl, if_pos h, take_all s k hlt]) (by unfold P.ckOk; rw [hl]; simpa using h), rfl⟩
  · go_enter Try.func163, Try.ntmps163
    go_wp2
    go_ret2
    exact ⟨ret_ib (by unfold P.ckI; rw [hl, if_neg h]) (by unfold P.ckOk; rw [hl]; simpa using h), rfl⟩
theorem c_number (s : ByteArray) (w : World) (hs : s.size ≤ maxLen) : Calls Try.prog 161 #[.string s] w fun e w' => e = .returned (.tuple #[.int .i64 (P.numI (B s)), .bool (P.numB (B s))]) ∧ w = w' := by
  unfold maxLen at hs
  have hl := B_len s
  by_cases h0 : s.size < 1
  · have HF := Lib.hid (P.numB_false_len (l := B s) (.inl (by omega)))
    have he : ((s.size : Int) == 0) = true := beq_iff_eq.2 (by omega)
    go_enter Try.func161, Try.ntmps161
    go_wp2
    go_ret2
    exact ⟨ret_ib (by unfold P.numI; rw [HF.out]; rfl) HF.out.symm, rfl⟩
  · have he : ((s.size : Int) == 0) = false := beq_eq_false_iff_ne.2 (by omega)
    by_cases h9 : 9 < s.size
    · have HF := Lib.hid (P.numB_false_len (l := B s) (.inr (by omega)))
      go_enter Try.func161, Try.ntmps161
      go_wp2
      go_ret2
      exact ⟨ret_ib (by unfold P.numI; rw [HF.out]; rfl) HF.out.symm, rfl⟩
    · have hh := B_head s (by omega)
      obtain ⟨c0, hc0⟩ : ∃ c, c = s[0]'(by omega) := ⟨_, rfl⟩
      by_cases hz : 1 < s.size ∧ c0.toNat = 48
      · obtain ⟨h1, hz⟩ := hz
        have HF := Lib.hid (P.numB_false_zero (l := B s) (by rw [hh, ← hc0]; congr 1; exact UInt8.toNat_inj.1 hz) (by omega))
        have hz' : (((s[0]'(by omega)).toNat : Int) == 48) = true := by rw [← hc0]; simp [hz]
        clear hh hz hc0
        go_enter Try.func161, Try.ntmps161
        go_wp2
        go_ret2
        exact ⟨ret_ib (by unfold P.numI; rw [HF.out]; rfl) HF.out.symm, rfl⟩
      · have HA := Lib.hid (P.numB_all (l := B s) (by omega) (by omega) (by
          by_cases h1 : s.size = 1
          · left; omega
          · right; rw [hh]; intro e; injection e with e; apply hz; exact ⟨by omega, by rw [hc0, e]; rfl⟩))
        have hz1 : ((((s[0]'(by omega)).toNat : Int) == 48) = false) ∨ ((((s[0]'(by omega)).toNat : Int) == 48) = true ∧ ¬ (1 : Int) < s.size) := by
          rw [← hc0]
          by_cases e : c0.toNat = 48
          · right; exact ⟨beq_iff_eq.2 (by omega), by omega⟩
          · left; exact beq_eq_false_iff_ne.2 (by omega)
        clear hh hz hc0
        rcases hz1 with hz1 | ⟨hz1, hz2⟩
        all_goals
          go_enter Try.func161, Try.ntmps161
          go_wp2
          go_loop [4, 5] (fun n i => ∃ k : Nat, k ≤ s.size ∧ i = .int .i64 k ∧ n = .int .i64 (P.val ((B s).take k)) ∧ ((B s).take k).all P.digB = true) (fun _ i => s.size - (intOf i).toNat)
          case atStart => exact ⟨0, Nat.zero_le _, rfl, rfl, rfl⟩
          case round =>
            obtain ⟨k, hk, rfl, rfl, hal⟩ := hrel
            have hv := P.val_lt 9 _ hal (by rw [List.length_take]; omega)
            have HAL := Lib.hid hal
            clear hal
            simp at hv
            by_cases hlt : k < s.size
            · have hb : (s[k]).toNat < 256 := s[k].toNat_lt
              by_cases hd : 48 ≤ (s[k]).toNat ∧ (s[k]).toNat ≤ 57
              · obtain ⟨hd1, hd2⟩ := hd
                have HS := Lib.hid (show P.val ((B s).take (k + 1)) = 10 * P.val ((B s).take k) + ((s[k]).toNat - 48) by rw [take_snoc s k hlt, P.val_snoc])
                have HN := Lib.hid (P.take_all_true HAL.out (by rw [hl]; exact hlt) ((P.digB_iff _).2 ⟨hd1, hd2⟩))
                go_wp2
                all_goals
                  go_round
                  case rel => exact ⟨k + 1, by omega, by go_num, by rw [HS.out]; go_num, HN.out⟩
                  case measure => simp [intOf]; omega
              · have HF := Lib.hid (show P.numB (B s) = false by
                  rw [HA.out]; exact P.all_false (k := k) (by rw [hl]; exact hlt) (by rw [Bool.eq_false_iff]; intro e; exact hd ((P.digB_iff _).1 e)))
                have hd' : (s[k]).toNat < 48 ∨ 57 < (s[k]).toNat := by omega
                clear hd
                rcases hd' with hd' | hd'
                all_goals
                  go_wp2
                  go_ret2
                  exact ⟨ret_ib (by unfold P.numI; rw [HF.out]; rfl) HF.out.symm, rfl⟩
            · have HT := Lib.hid (show P.numB (B s) = true by rw [HA.out]; have := HAL.out; rwa [take_all s k hlt] at this)
              go_wp2
              go_ret2
              exact ⟨ret_ib (by unfold P.numI; rw [HT.out, if_pos rfl, take_all s k hlt]) HT.out.symm, rfl⟩

end Go.Proofs.Ytfbanjmooknafaa
