/-
  Contracts of the functions on names and their bits.
-/
import Derived.Test.YtfbanjmooknafaaB3
import Derived.Test.YtfbanjmooknafaaN
namespace Go.Proofs.Ytfbanjmooknafaa
open Go.RowKit
set_option linter.unusedSimpArgs false
set_option linter.unusedVariables false
set_option maxRecDepth 100000

/-- a letter or a digit -/
def ldB (c : UInt8) : Bool := P.letB c || P.digB c
def nbS (l : List UInt8) : List UInt8 := if P.nameB l = true then P.nbL l else []
def npOk (l : List UInt8) (p : Int) : Bool := P.nameB l && P.inB p 0 1
def npI (l : List UInt8) (p : Int) : Int := if npOk l p = true then (P.numL (((P.nbL l).drop (24 * p.toNat)).take 24) : Int) else 0
theorem nameB_def (l : List UInt8) : P.nameB l = (decide (1 ≤ l.length) && decide (l.length ≤ 8) && l.all ldB) := rfl
theorem nameB_len {l : List UInt8} (h : P.inB l.length 1 8 = false) : P.nameB l = false := by
  rw [nameB_def]
  rcases P.inB_no.1 h with h | h
  · rw [decide_eq_false (by omega)]; rfl
  · rw [decide_eq_false (p := l.length ≤ 8) (by omega), Bool.and_false]; rfl
theorem nameB_bad {l : List UInt8} {k : Nat} (hk : k < l.length) (h : ldB l[k] = false) : P.nameB l = false := by
  rw [nameB_def, P.all_false hk h, Bool.and_false]
theorem nameB_all {l : List UInt8} (h : l.all ldB = true) : P.nameB l = P.inB l.length 1 8 := by
  rw [nameB_def, h, Bool.and_true]
  unfold P.inB
  congr 1
  · exact decide_eq_decide.2 (by omega)
  · exact decide_eq_decide.2 (by omega)
theorem nameB_inB {l : List UInt8} (h : P.nameB l = true) : 1 ≤ l.length ∧ l.length ≤ 8 := ⟨((P.nameB_iff l).1 h).1, ((P.nameB_iff l).1 h).2.1⟩
theorem codeI_ld (c : UInt8) : (ldB c = true ∧ 0 ≤ P.codeI c ∧ ((c.toNat : Int) == 32) = false) ∨ (ldB c = false ∧ P.codeI c < 0) ∨ (ldB c = false ∧ 0 ≤ P.codeI c ∧ ((c.toNat : Int) == 32) = true) := by
  unfold P.codeI ldB
  rcases code_kinds c with ⟨hl, h1, h2, hc, hk⟩ | ⟨hl, hd, h1, h2, hc, hk⟩ | ⟨hl, hd, h1, hc, hk⟩ | ⟨hl, hd, h1, h2, h3, hc, hk⟩
  · left; rw [hl, hk, if_pos rfl]; exact ⟨rfl, by omega, beq_eq_false_iff_ne.2 (by omega)⟩
  · left; rw [hd, hk, if_pos rfl]; exact ⟨by simp, by omega, beq_eq_false_iff_ne.2 (by omega)⟩
  · right; right; rw [hl, hd, hk, if_pos rfl]; exact ⟨rfl, by omega, beq_iff_eq.2 (by omega)⟩
  · right; left; rw [hl, hd, hk, if_neg (by simp)]; exact ⟨rfl, by omega⟩
theorem codeI_code {c : UInt8} (h : P.codeB c = true) : P.codeI c = (P.codeN c : Int) := by unfold P.codeI; rw [if_pos h]
theorem padB_in (s : ByteArray) (k : Nat) (h : k < s.size) : P.padB (B s) k = s[k] := by
  unfold P.padB; rw [List.getD_eq_getElem?_getD, B_get? s k h]; rfl
theorem padB_out (s : ByteArray) (k : Nat) (h : ¬ k < s.size) : P.padB (B s) k = 32 := by
  unfold P.padB; rw [List.getD_eq_getElem?_getD, List.getElem?_eq_none (by rw [B_len]; omega)]; rfl
theorem c_implIsFlightName (s : ByteArray) (w : World) (hs : s.size ≤ maxLen) : Calls Try.prog 90 #[.string s] w fun e w' => e = .returned (.bool (P.nameB (B s))) ∧ w = w' := by
  unfold maxLen at hs
  have hl := B_len s
  cases hin : P.inB s.size 1 8 with
  | false =>
    have HF := Lib.hid (nameB_len (l := B s) (by rw [hl]; exact hin))
    go_enter Try.func90, Try.ntmps90
    go_wp2_with (go_at_call 141; refine (c_within _ _ _ _).mono ?_; rintro e w' ⟨rfl, rfl⟩)
    go_ret
    exact ⟨ret_bool HF.out.symm, rfl⟩
  | true =>
    obtain ⟨h1, h8⟩ := P.inB_iff.1 hin
    have HIN := Lib.hid hin
    go_enter Try.func90, Try.ntmps90
    go_wp2_with (go_at_call 141; refine (c_within _ _ _ _).mono ?_; rintro e w' ⟨rfl, rfl⟩)
    go_loop [3] (fun i => ∃ k : Nat, k ≤ s.size ∧ i = .int .i64 k ∧ ((B s).take k).all ldB = true) (fun i => s.size - (intOf i).toNat)
    case atStart => exact ⟨0, Nat.zero_le _, rfl, rfl⟩
    case round =>
      obtain ⟨k, hk, rfl, hal⟩ := hrel
      have HAL := Lib.hid hal
      clear hal
      by_cases hlt : k < s.size
      · cases hlb : P.letB s[k] with
        | true =>
          have HN := Lib.hid (P.take_all_true HAL.out (by rw [hl]; exact hlt) (show ldB s[k] = true by unfold ldB; rw [hlb]; rfl))
          go_wp2_with (first | (go_at_call 192; refine (c_isLetter _ _).mono ?_; rintro e w' ⟨rfl, rfl⟩) | (go_at_call 193; refine (c_isDigit _ _).mono ?_; rintro e w' ⟨rfl, rfl⟩))
          go_round
          case rel => exact ⟨k + 1, by omega, by go_num, HN.out⟩
          case measure => simp [intOf]; omega
        | false =>
          cases hdb : P.digB s[k] with
          | true =>
            have HN := Lib.hid (P.take_all_true HAL.out (by rw [hl]; exact hlt) (show ldB s[k] = true by unfold ldB; rw [hlb, hdb]; rfl))
            go_wp2_with (first | (go_at_call 192; refine (c_isLetter _ _).mono ?_; rintro e w' ⟨rfl, rfl⟩) | (go_at_call 193; refine (c_isDigit _ _).mono ?_; rintro e w' ⟨rfl, rfl⟩))
            go_round
            case rel => exact ⟨k + 1, by omega, by go_num, HN.out⟩
            case measure => simp [intOf]; omega
          | false =>
            have HF := Lib.hid (nameB_bad (l := B s) (k := k) (by rw [hl]; exact hlt) (show ldB s[k] = false by unfold ldB; rw [hlb, hdb]; rfl))
            go_wp2_with (first | (go_at_call 192; refine (c_isLetter _ _).mono ?_; rintro e w' ⟨rfl, rfl⟩) | (go_at_call 193; refine (c_isDigit _ _).mono ?_; rintro e w' ⟨rfl, rfl⟩))
            go_ret
            exact ⟨ret_bool HF.out.symm, rfl⟩
      · have HT := Lib.hid (show P.nameB (B s) = true by rw [nameB_all (by have := HAL.out; rwa [take_all s k hlt] at this), hl]; exact HIN.out)
        go_wp2
        go_ret
        exact ⟨ret_bool HT.out.symm, rfl⟩
theorem c_l3Name (s : ByteArray) (w : World) (hs : s.size ≤ maxLen) : Calls Try.prog 190 #[.string s] w fun e w' => e = .returned (.bool (P.nameB (B s))) ∧ w = w' := by
  unfold maxLen at hs
  have hl := B_len s
  go_enter Try.func190, Try.ntmps190
  go_wp2
  go_loop [3] (fun i => ∃ k : Nat, k ≤ s.size ∧ i = .int .i64 k ∧ ((B s).take k).all ldB = true) (fun i => s.size - (intOf i).toNat)
  case atStart => exact ⟨0, Nat.zero_le _, rfl, rfl⟩
  case round =>
    obtain ⟨k, hk, rfl, hal⟩ := hrel
    have HAL := Lib.hid hal
    clear hal
    by_cases hlt : k < s.size
    · rcases codeI_ld s[k] with ⟨hld, hc, h32⟩ | ⟨hld, hc⟩ | ⟨hld, hc, h32⟩
      · have HN := Lib.hid (P.take_all_true HAL.out (by rw [hl]; exact hlt) (show ldB s[k] = true from hld))
        go_wp2_with (go_at_call 196; refine (c_l3Code _ _).mono ?_; rintro e w' ⟨rfl, rfl⟩)
        go_round
        case rel => exact ⟨k + 1, by omega, by go_num, HN.out⟩
        case measure => simp [intOf]; omega
      all_goals
        have HF := Lib.hid (nameB_bad (l := B s) (k := k) (by rw [hl]; exact hlt) (show ldB s[k] = false from hld))
        go_wp2_with (go_at_call 196; refine (c_l3Code _ _).mono ?_; rintro e w' ⟨rfl, rfl⟩)
        go_ret
        exact ⟨ret_bool HF.out.symm, rfl⟩
    · have HT := Lib.hid (show P.nameB (B s) = P.inB s.size 1 8 by rw [nameB_all (by have := HAL.out; rwa [take_all s k hlt] at this), hl])
      go_wp2_with (go_at_call 145; refine (c_l1In _ _ _ _).mono ?_; rintro e w' ⟨rfl, rfl⟩)
      go_ret
      exact ⟨ret_bool HT.out.symm, rfl⟩
theorem c_nameBits (s : ByteArray) (w : World) (hs : s.size ≤ maxLen) : Calls Try.prog 189 #[.string s] w fun e w' => e = .returned (.string (bs (P.nbL (B s)))) ∧ Below w.heap.size w w' := by
  unfold maxLen at hs
  go_enter Try.func189, Try.ntmps189
  go_wp2
  go_loopw [3, 4] (fun o i wr => ∃ k : Nat, k ≤ 8 ∧ i = .int .i64 k ∧ o = .string (bs (P.nbTo (B s) k)) ∧ Below w.heap.size w wr) (fun _ i _ => 8 - (intOf i).toNat)
  case atStart => exact ⟨0, by omega, rfl, rfl, Below.refl _ _⟩
  case round =>
    obtain ⟨k, hk, rfl, rfl, hb⟩ := hrel
    have hsz := hb.size
    by_cases hlt : k < 8
    · have hll := P.nbTo_len (B s) k
      obtain ⟨c, hc⟩ : ∃ c, P.padB (B s) k = c := ⟨_, rfl⟩
      have hbl := P.bitsL_len (P.codeN c) 6
      have hcn := P.codeN_lt c
      have hadd : ∀ W, (Op.stringOp .add (bs (P.nbTo (B s) k)) (bs (P.bitsL (P.codeN c) 6))).run Try.prog W = .ok (.string (bs (P.nbTo (B s) k ++ P.bitsL (P.codeN c) 6))) W := fun W => run_add W _ _ (by omega)
      have HS := Lib.hid (show P.nbTo (B s) (k + 1) = P.nbTo (B s) k ++ P.bitsL (P.codeN c) 6 by rw [P.nbTo, hc])
      have hcn2 : P.codeN c ≤ 1073741823 := by omega
      clear hcn
      by_cases hks : k < s.size
      · obtain rfl : s[k] = c := by rw [← hc, padB_in s k hks]
        clear hc hll hbl
        go_wp2_with (first | (go_at_call 97; refine (c_implLetterCode _ _).mono ?_; rintro e w' ⟨rfl, rfl⟩) | (go_at_call 165; refine (c_bitsOf _ 6 _ hcn2 (by omega)).mono ?_; rintro e w1 ⟨rfl, hb1⟩))
        go_roundw
        case rel => exact ⟨k + 1, by omega, by go_num, by rw [HS.out], hb.trans (hb1.mono hsz)⟩
        case measure => simp [intOf]; omega
      · obtain rfl : 32 = c := by rw [← hc, padB_out s k hks]
        clear hc hll hbl
        go_wp2_with (first | (go_at_call 97; refine (c_implLetterCode 32 _).mono ?_; rintro e w' ⟨rfl, rfl⟩) | (go_at_call 165; refine (c_bitsOf _ 6 _ hcn2 (by omega)).mono ?_; rintro e w1 ⟨rfl, hb1⟩))
        go_roundw
        case rel => exact ⟨k + 1, by omega, by go_num, by rw [HS.out], hb.trans (hb1.mono hsz)⟩
        case measure => simp [intOf]; omega
    · have h8 : k = 8 := by omega
      subst h8
      go_wp2
      go_ret
      exact ⟨rfl, hb⟩
theorem c_l3Bits (s : ByteArray) (w : World) (hn : P.nameB (B s) = true) : Calls Try.prog 191 #[.string s] w fun e w' => e = .returned (.string (bs (P.nbL (B s)))) ∧ w = w' := by
  have hl := B_len s
  have hs := (nameB_inB hn).2
  have HN := Lib.hid hn
  clear hn
  go_enter Try.func191, Try.ntmps191
  go_wp2
  go_loop [3, 4] (fun o i => ∃ k : Nat, k ≤ 8 ∧ i = .int .i64 k ∧ o = .string (bs (P.nbTo (B s) k))) (fun _ i => 8 - (intOf i).toNat)
  case atStart => exact ⟨0, by omega, rfl, rfl⟩
  case round =>
    obtain ⟨k, hk, rfl, rfl⟩ := hrel
    by_cases hlt : k < 8
    · have hll := P.nbTo_len (B s) k
      have HC := Lib.hid (codeI_code (P.padB_code HN.out k))
      obtain ⟨c, hc⟩ : ∃ c, P.padB (B s) k = c := ⟨_, rfl⟩
      rw [hc] at HC
      have hbl := P.bitsL_len (P.codeN c) 6
      have hcn := P.codeN_lt c
      have hadd : ∀ W, (Op.stringOp .add (bs (P.nbTo (B s) k)) (bs (P.bitsL (P.codeN c) 6))).run Try.prog W = .ok (.string (bs (P.nbTo (B s) k ++ P.bitsL (P.codeN c) 6))) W := fun W => run_add W _ _ (by omega)
      have HS := Lib.hid (show P.nbTo (B s) (k + 1) = P.nbTo (B s) k ++ P.bitsL (P.codeN c) 6 by rw [P.nbTo, hc])
      have hcn2 : P.codeN c ≤ 1073741823 := by omega
      clear hcn
      by_cases hks : k < s.size
      · obtain rfl : s[k] = c := by rw [← hc, padB_in s k hks]
        clear hc hll hbl
        go_wp2_with (first | (go_at_call 196; refine (c_l3Code _ _).mono ?_; rintro e w' ⟨rfl, rfl⟩; rw [HC.out]) | (go_at_call 135; refine (c_l2Of _ 6 _ hcn2 (by omega)).mono ?_; rintro e w1 ⟨rfl, rfl⟩))
        go_round
        case rel => exact ⟨k + 1, by omega, by go_num, by rw [HS.out]⟩
        case measure => simp [intOf]; omega
      · obtain rfl : 32 = c := by rw [← hc, padB_out s k hks]
        clear hc hll hbl
        go_wp2_with (first | (go_at_call 196; refine (c_l3Code 32 _).mono ?_; rintro e w' ⟨rfl, rfl⟩; rw [HC.out]) | (go_at_call 135; refine (c_l2Of _ 6 _ hcn2 (by omega)).mono ?_; rintro e w1 ⟨rfl, rfl⟩))
        go_round
        case rel => exact ⟨k + 1, by omega, by go_num, by rw [HS.out]⟩
        case measure => simp [intOf]; omega
    · have h8 : k = 8 := by omega
      subst h8
      go_wp2
      go_ret
      exact ⟨rfl, rfl⟩
end Go.Proofs.Ytfbanjmooknafaa
