/-
  Contracts of the functions on parities and syndromes, as the reference computes them: by a register of twelve bits.
-/
import Derived.Test.YtfbanjmooknafaaB3
namespace Go.Proofs.Ytfbanjmooknafaa
open Go.RowKit
set_option linter.unusedSimpArgs false
set_option linter.unusedVariables false
set_option maxRecDepth 100000

theorem par_next {l : List UInt8} {k : Nat} {c : UInt8} (h : (l ++ P.zeros 12)[k]? = some c) : P.runR 0 ((l ++ P.zeros 12).take (k + 1)) = P.stepR (P.runR 0 ((l ++ P.zeros 12).take k)) (P.bv c) := by
  obtain ⟨hk, hc⟩ := List.getElem?_eq_some_iff.1 h
  rw [List.take_succ_eq_append_getElem hk, hc, P.runR_snoc]
theorem par_in {l : List UInt8} {k : Nat} {c : UInt8} (h : l[k]? = some c) : (l ++ P.zeros 12)[k]? = some c := by
  obtain ⟨hk, _⟩ := List.getElem?_eq_some_iff.1 h
  rw [List.getElem?_append_left hk]; exact h
theorem par_out {l : List UInt8} {k : Nat} (h : ¬ k < l.length) (h2 : k < l.length + 12) : (l ++ P.zeros 12)[k]? = some 48 := by
  rw [List.getElem?_append_right (by omega)]
  unfold P.zeros
  rw [List.getElem?_replicate, if_pos (by omega)]
theorem stepR_big {r x : Nat} (h : 4096 ≤ 2 * r + x) : P.stepR r x = (2 * r + x) ^^^ 6159 := if_pos h
theorem stepR_small {r x : Nat} (h : ¬ 4096 ≤ 2 * r + x) : P.stepR r x = 2 * r + x := if_neg h
theorem c_l4Parity (s : ByteArray) (w : World) (hs : s.size ≤ 64) : Calls Try.prog 150 #[.string s] w fun e w' => e = .returned (.int .i64 (P.parN (B s))) ∧ w = w' := by
  have hl := B_len s
  go_enter Try.func150, Try.ntmps150
  go_wp2
  go_loop [3, 4] (fun v i => ∃ (k r : Nat), k ≤ s.size + 12 ∧ i = .int .i64 k ∧ v = .int .i64 r ∧ r = P.runR 0 ((B s ++ P.zeros 12).take k)) (fun _ i => s.size + 12 - (intOf i).toNat)
  case atStart => exact ⟨0, 0, by omega, rfl, rfl, rfl⟩
  case round =>
    obtain ⟨k, r, hk, rfl, rfl, hr⟩ := hrel
    have hr4 : r < 4096 := by rw [hr]; exact P.runR_lt (by omega) _
    have HR := Lib.hid hr
    clear hr
    by_cases hlt : k < s.size + 12
    · by_cases hks : k < s.size
      · have hsk := (s[k]).toNat_lt
        by_cases h1 : (s[k]).toNat = 49
        · have e1 : (((s[k]).toNat : Int) == 49) = true := beq_iff_eq.2 (by omega)
          have HX := Lib.hid (show P.runR 0 ((B s ++ P.zeros 12).take (k + 1)) = P.stepR r 1 by
            rw [par_next (par_in (B_get? s k hks)), ← HR.out]
            have : s[k] = 49 := UInt8.toNat_inj.1 h1
            rw [this]; rfl)
          clear h1
          by_cases hge : 4096 ≤ 2 * r + 1
          · have HS := Lib.hid (show P.runR 0 ((B s ++ P.zeros 12).take (k + 1)) = (2 * r + 1) ^^^ 6159 by rw [HX.out]; exact stepR_big hge)
            obtain ⟨q, hq⟩ : ∃ q, (2 * r + 1) ^^^ 6159 = q := ⟨_, rfl⟩
            have hq1 : bits .xor .i64 (2 * (r : Int) + 1) 6159 = (q : Int) := by
              rw [← hq, ← i64_xor (2 * r + 1) 6159 (by omega) (by omega)]; push_cast; rfl
            have hq2 : bits .xor .i64 (2 * (r : Int)) 6159 = bits .xor .i64 (2 * (r : Int) + 0) 6159 := by rw [Int.add_zero]
            have HQ := Lib.hid hq
            clear hq
            go_wp2
            go_round
            case rel => exact ⟨k + 1, _, by omega, by go_num, by first | rfl | (rw [hq1]) | (rw [hq2, hq1]), by rw [HS.out, HQ.out]⟩
            case measure => simp [intOf]; omega
          · have HS := Lib.hid (show P.runR 0 ((B s ++ P.zeros 12).take (k + 1)) = 2 * r + 1 by rw [HX.out]; exact stepR_small hge)
            go_wp2
            go_round
            case rel => exact ⟨k + 1, 2 * r + 1, by omega, by go_num, by go_num, by rw [HS.out]⟩
            case measure => simp [intOf]; omega
        · have e1 : (((s[k]).toNat : Int) == 49) = false := beq_eq_false_iff_ne.2 (by omega)
          have HX := Lib.hid (show P.runR 0 ((B s ++ P.zeros 12).take (k + 1)) = P.stepR r 0 by
            rw [par_next (par_in (B_get? s k hks)), ← HR.out]
            unfold P.bv
            rw [if_neg (fun e => h1 (congrArg UInt8.toNat e))])
          clear h1
          by_cases hge : 4096 ≤ 2 * r + 0
          · have HS := Lib.hid (show P.runR 0 ((B s ++ P.zeros 12).take (k + 1)) = (2 * r + 0) ^^^ 6159 by rw [HX.out]; exact stepR_big hge)
            obtain ⟨q, hq⟩ : ∃ q, (2 * r + 0) ^^^ 6159 = q := ⟨_, rfl⟩
            have hq1 : bits .xor .i64 (2 * (r : Int) + 0) 6159 = (q : Int) := by
              rw [← hq, ← i64_xor (2 * r + 0) 6159 (by omega) (by omega)]; push_cast; rfl
            have hq2 : bits .xor .i64 (2 * (r : Int)) 6159 = bits .xor .i64 (2 * (r : Int) + 0) 6159 := by rw [Int.add_zero]
            have HQ := Lib.hid hq
            clear hq
            go_wp2
            go_round
            case rel => exact ⟨k + 1, _, by omega, by go_num, by first | rfl | (rw [hq1]) | (rw [hq2, hq1]), by rw [HS.out, HQ.out]⟩
            case measure => simp [intOf]; omega
          · have HS := Lib.hid (show P.runR 0 ((B s ++ P.zeros 12).take (k + 1)) = 2 * r + 0 by rw [HX.out]; exact stepR_small hge)
            go_wp2
            go_round
            case rel => exact ⟨k + 1, 2 * r + 0, by omega, by go_num, by go_num, by rw [HS.out]⟩
            case measure => simp [intOf]; omega
      · have HX := Lib.hid (show P.runR 0 ((B s ++ P.zeros 12).take (k + 1)) = P.stepR r 0 by
          rw [par_next (par_out (by omega) (by omega)), ← HR.out]; rfl)
        by_cases hge : 4096 ≤ 2 * r + 0
        · have HS := Lib.hid (show P.runR 0 ((B s ++ P.zeros 12).take (k + 1)) = (2 * r + 0) ^^^ 6159 by rw [HX.out]; exact stepR_big hge)
          obtain ⟨q, hq⟩ : ∃ q, (2 * r + 0) ^^^ 6159 = q := ⟨_, rfl⟩
          have hq1 : bits .xor .i64 (2 * (r : Int) + 0) 6159 = (q : Int) := by
            rw [← hq, ← i64_xor (2 * r + 0) 6159 (by omega) (by omega)]; push_cast; rfl
          have hq2 : bits .xor .i64 (2 * (r : Int)) 6159 = bits .xor .i64 (2 * (r : Int) + 0) 6159 := by rw [Int.add_zero]
          have HQ := Lib.hid hq
          clear hq
          go_wp2
          go_round
          case rel => exact ⟨k + 1, _, by omega, by go_num, by first | rfl | (rw [hq1]) | (rw [hq2, hq1]), by rw [HS.out, HQ.out]⟩
          case measure => simp [intOf]; omega
        · have HS := Lib.hid (show P.runR 0 ((B s ++ P.zeros 12).take (k + 1)) = 2 * r + 0 by rw [HX.out]; exact stepR_small hge)
          go_wp2
          go_round
          case rel => exact ⟨k + 1, 2 * r + 0, by omega, by go_num, by go_num, by rw [HS.out]⟩
          case measure => simp [intOf]; omega
    · have HE := Lib.hid (show (r : Int) = (P.parN (B s) : Int) by
        rw [HR.out, List.take_of_length_le (by rw [List.length_append, P.zeros_len]; omega)]; rfl)
      go_wp2
      go_ret
      exact ⟨ret_int HE.out, rfl⟩
/-- a bit string that may have a parity -/
def crOk (l : List UInt8) : Bool := P.isBits l && decide (12 ≤ l.length)
theorem crOk_iff {l : List UInt8} : crOk l = true ↔ (l.length ≤ 64 ∧ l.all P.bitB = true) ∧ 12 ≤ l.length := by unfold crOk; rw [Bool.and_eq_true, P.isBits_iff]; simp
theorem c_l4Good (s : ByteArray) (w : World) (hs : s.size ≤ maxLen) : Calls Try.prog 134 #[.string s] w fun e w' => e = .returned (.bool (crOk (B s))) ∧ w = w' := by
  have hl := B_len s
  cases hb : P.isBits (B s) with
  | false =>
    have HF := Lib.hid (show crOk (B s) = false by unfold crOk; rw [hb]; rfl)
    go_enter Try.func134, Try.ntmps134
    go_wp2_with (go_at_call 149; refine (c_l2Good s _ hs).mono ?_; rintro e w' ⟨rfl, rfl⟩)
    go_ret
    exact ⟨ret_bool HF.out.symm, rfl⟩
  | true =>
    have HT := Lib.hid (show crOk (B s) = decide (12 ≤ (s.size : Int)) by unfold crOk; rw [hb, Bool.true_and]; exact decide_eq_decide.2 (by omega))
    go_enter Try.func134, Try.ntmps134
    go_wp2_with (go_at_call 149; refine (c_l2Good s _ hs).mono ?_; rintro e w' ⟨rfl, rfl⟩)
    go_ret
    exact ⟨ret_bool HT.out.symm, rfl⟩
theorem c_l4Syndrome (s : ByteArray) (w : World) (h12 : 12 ≤ s.size) (hs : s.size ≤ 64) (hbits : (B s).all P.bitB = true) : Calls Try.prog 136 #[.string s] w fun e w' => e = .returned (.int .i64 (P.synN (B s))) ∧ Qt w w' := by
  have hl := B_len s
  obtain ⟨n, hn⟩ : ∃ n, s.size = n + 12 := ⟨s.size - 12, by omega⟩
  obtain ⟨u, hu⟩ : ∃ u, s.extract 0 n = u := ⟨_, rfl⟩
  obtain ⟨v, hv⟩ : ∃ v, s.extract n s.size = v := ⟨_, rfl⟩
  have hBu : B u = (B s).take n := by rw [← hu, B_ext]; simp
  have hBv : B v = (B s).drop n := by rw [← hv, B_ext, List.take_of_length_le (by rw [List.length_drop]; omega)]
  have hus : u.size ≤ 64 := by rw [← B_len, hBu, List.length_take]; omega
  have hvs : v.size ≤ 30 := by rw [← B_len, hBv, List.length_drop]; omega
  have HV := Lib.hid (show (B v).all P.bitB = true by rw [hBv]; exact P.all_drop hbits n)
  have HX := Lib.hid (show P.parN (B u) ^^^ P.numL (B v) = P.synN (B s) by
    unfold P.synN; rw [hBu, hBv, hl, hn, Nat.add_sub_cancel])
  have hp := P.parN_lt (B u)
  have hq := P.numL_lt30 (l := B v) (by rw [B_len]; exact hvs)
  obtain ⟨x, hx⟩ : ∃ x, P.parN (B u) = x := ⟨_, rfl⟩
  obtain ⟨y, hy⟩ : ∃ y, P.numL (B v) = y := ⟨_, rfl⟩
  rw [hx, hy] at HX
  rw [hx] at hp
  rw [hy] at hq
  have hxor := i64_xor x y (by omega) (by omega)
  obtain ⟨z, hz⟩ : ∃ z, x ^^^ y = z := ⟨_, rfl⟩
  rw [hz] at hxor HX
  have HU := Lib.hid hx
  have HY := Lib.hid hy
  have hn1 : ((s.size : Int) - 12).toNat = n := by omega
  have hn0 : 0 ≤ (s.size : Int) - 12 := by omega
  have hn2 : (s.size : Int) - 12 ≤ (s.size : Int) := by omega
  have hw1 : IntKind.i64.wrap ((s.size : Int) - 12) = (s.size : Int) - 12 := IntWalk.i64_in _ (by omega)
  have HN := Lib.hid hn
  clear hn
  clear hx hy hz hBu hBv hbits
  go_enter Try.func136, Try.ntmps136
  go_wp2
  go_quiet (first | (go_at_call 150; exact Calls.quiet_of_same ((c_l4Parity u _ hus).mono fun _ _ h => ⟨h.1.trans (by rw [HU.out]), h.2.symm⟩)) | (go_at_call 173; exact Calls.quiet_of_same ((c_l2Number v _ hvs HV.out).mono fun _ _ h => ⟨h.1.trans (by rw [HY.out]), h.2.symm⟩)))
  go_wp2
  go_ret
  exact ⟨ret_int (by rw [← HX.out]), Qt.of _ _⟩
end Go.Proofs.Ytfbanjmooknafaa
