/-
  Contracts of the functions on hex texts.
-/
import Derived.Test.YtfbanjmooknafaaB3
namespace Go.Proofs.Ytfbanjmooknafaa
open Go.RowKit
set_option linter.unusedSimpArgs false
set_option linter.unusedVariables false
set_option maxRecDepth 100000

/-- results of the functions on hex texts -/
def hoOk (l : List UInt8) : Bool := P.isBits l && decide (l.length % 4 = 0)
def hoL (l : List UInt8) : List UInt8 := if hoOk l = true then P.hexL l else []
def bhL (l : List UInt8) : List UInt8 := if P.unhexOk l = true then P.unhexL l else []
theorem hexV_found {c : UInt8} {k : Nat} (hk : k < 16) (h : P.hexC k = c) : P.hexV c = k := by rw [← h]; exact P.hexV_hexC hk
theorem hexV_none {c : UInt8} (h : ∀ k, k < 16 → P.hexC k ≠ c) : P.hexV c = -1 := by
  by_cases h0 : 0 ≤ P.hexV c
  · have := P.hexV_lt c
    exact absurd (P.hexC_hexV h0) (h _ (by omega))
  · have := P.hexV_lt c
    omega
def hexS : ByteArray := ⟨#[48, 49, 50, 51, 52, 53, 54, 55, 56, 57, 65, 66, 67, 68, 69, 70]⟩
theorem hexS_at : ∀ k, (h : k < 16) → hexS[k]'h = P.hexC k := by
  intro k h
  have : ∀ j : Fin 16, hexS[j.1]'j.2 = P.hexC j.1 := by decide
  exact this ⟨k, h⟩
theorem hexS_cut : ∀ k, (h : k < 16) → hexS.extract k (k + 1) = bs [P.hexC k] := by
  intro k h
  have : ∀ j : Fin 16, B (hexS.extract j.1 (j.1 + 1)) = [P.hexC j.1] := by decide
  exact B_inj (this ⟨k, h⟩)
theorem hexC_inj {j k : Nat} (hj : j < 16) (hk : k < 16) (h : P.hexC j = P.hexC k) : j = k := by
  have h1 := P.hexV_hexC hj
  have h2 := P.hexV_hexC hk
  rw [h] at h1; omega
theorem unhexOk_long {l : List UInt8} (h : 16 < l.length) : P.unhexOk l = false := by unfold P.unhexOk; rw [decide_eq_false (by omega)]; rfl
theorem unhexOk_bad {l : List UInt8} {k : Nat} (hk : k < l.length) (h : P.hexB l[k] = false) : P.unhexOk l = false := by
  unfold P.unhexOk; rw [P.all_false hk h, Bool.and_false]
theorem unhexOk_yes {l : List UInt8} (h : l.length ≤ 16) (h2 : l.all P.hexB = true) : P.unhexOk l = true := by unfold P.unhexOk; rw [h2, decide_eq_true h]; rfl
theorem hexB_yes {c : UInt8} (h : 0 ≤ P.hexV c) : P.hexB c = true := by unfold P.hexB; exact decide_eq_true h
theorem hexB_no {c : UInt8} (h : P.hexV c < 0) : P.hexB c = false := by unfold P.hexB; exact decide_eq_false (by omega)
theorem c_hexDigit (c : UInt8) (w : World) : Calls Try.prog 168 #[.int .u8 (c.toNat : Int)] w fun e w' => e = .returned (.int .i64 (P.hexV c)) ∧ w = w' := by
  have hc := c.toNat_lt
  go_enter Try.func168, Try.ntmps168
  go_wp2
  go_loop [3] (fun i => ∃ k : Nat, k ≤ 16 ∧ i = .int .i64 k ∧ ∀ j, j < k → P.hexC j ≠ c) (fun i => 16 - (intOf i).toNat)
  case atStart => exact ⟨0, by omega, rfl, fun j hj => by omega⟩
  case round =>
    obtain ⟨k, hk, rfl, hno⟩ := hrel
    have HN := Lib.hid hno
    clear hno
    by_cases hlt : k < 16
    · have hat := hexS_at k hlt
      by_cases he : P.hexC k = c
      · have e1 : (((hexS[k]'hlt).toNat : Int) == (c.toNat : Int)) = true := by rw [hat, he]; exact beq_iff_eq.2 rfl
        unfold hexS at e1
        have HE := Lib.hid (hexV_found hlt he)
        clear he hat
        go_wp2
        go_ret
        exact ⟨ret_int HE.out.symm, rfl⟩
      · have e1 : (((hexS[k]'hlt).toNat : Int) == (c.toNat : Int)) = false := by
          rw [hat]; exact beq_eq_false_iff_ne.2 (fun e => he (UInt8.toNat_inj.1 (by omega)))
        unfold hexS at e1
        have HE := Lib.hid he
        clear he hat
        go_wp2
        go_round
        case rel => exact ⟨k + 1, by omega, by go_num, fun j hj => by
          by_cases hjk : j = k
          · rw [hjk]; exact HE.out
          · exact HN.out j (by omega)⟩
        case measure => simp [intOf]; omega
    · have h16 : k = 16 := by omega
      subst h16
      have HE := Lib.hid (hexV_none HN.out)
      go_wp2
      go_ret
      exact ⟨ret_int HE.out.symm, rfl⟩
theorem c_hexOf (s : ByteArray) (w : World) (hs : s.size ≤ 64) (h4 : s.size % 4 = 0) (hbits : (B s).all P.bitB = true) : Calls Try.prog 167 #[.string s] w fun e w' => e = .returned (.string (bs (P.hexL (B s)))) ∧ w = w' := by
  have hl := B_len s
  have HB := Lib.hid hbits
  clear hbits
  go_enter Try.func167, Try.ntmps167
  go_wp2
  go_loop [3, 4] (fun o i => ∃ (k : Nat), 4 * k ≤ s.size ∧ i = .int .i64 ((4 * k : Nat) : Int) ∧ o = .string (bs (P.hexGo k (B s)))) (fun _ i => s.size - (intOf i).toNat)
  case atStart => exact ⟨0, Nat.zero_le _, rfl, rfl⟩
  case round =>
    obtain ⟨k, hk, rfl, rfl⟩ := hrel
    have HL := Lib.hid (P.hexGo_len k (B s))
    by_cases hlt : 4 * k < s.size
    · obtain ⟨u, hu⟩ : ∃ u, s.extract (4 * k) (4 * k + 4) = u := ⟨_, rfl⟩
      have hBu : B u = ((B s).drop (4 * k)).take 4 := by rw [← hu, B_ext]; congr 1; omega
      have hul : u.size ≤ 4 := by rw [← B_len, hBu, List.length_take]; omega
      have HBB := Lib.hid (show (B u).all P.bitB = true by rw [hBu]; exact P.all_take (P.all_drop HB.out _) _)
      obtain ⟨m, hm⟩ : ∃ m, P.numL (B u) = m := ⟨_, rfl⟩
      have hm16 : m < 16 := by rw [← hm]; exact P.num4 (by rw [B_len]; exact hul)
      have hcut := hexS_cut m hm16
      unfold hexS at hcut
      have hadd : ∀ W, (Op.stringOp .add (bs (P.hexGo k (B s))) (bs [P.hexC m])).run Try.prog W = .ok (.string (bs (P.hexGo k (B s) ++ [P.hexC m]))) W := fun W => run_add W _ _ (by simp [HL.out]; omega)
      have HS := Lib.hid (show P.hexGo (k + 1) (B s) = P.hexGo k (B s) ++ [P.hexC m] by rw [P.hexGo_snoc, ← hBu, hm])
      have hn1 : (((4 * k : Nat) : Int) + 4).toNat = 4 * k + 4 := by omega
      have HM := Lib.hid hm
      clear hm hBu
      have hk4 : 4 * k + 4 ≤ s.size := by omega
      go_wp2_with (go_at_call 166; refine (c_numberOf u _ (by omega) HBB.out).mono ?_; rintro e w' ⟨rfl, rfl⟩; rw [HM.out])
      go_round
      case rel => exact ⟨k + 1, by omega, by go_num, by rw [HS.out]⟩
      case measure => simp [intOf]; omega
    · go_wp2
      go_ret
      exact ⟨ret_bs (by unfold P.hexL; rw [hl]; congr 1; omega), rfl⟩
theorem c_l2Hex (s : ByteArray) (w : World) (hs : s.size ≤ 64) (h4 : s.size % 4 = 0) (hbits : (B s).all P.bitB = true) : Calls Try.prog 169 #[.string s] w fun e w' => e = .returned (.string (bs (P.hexL (B s)))) ∧ w = w' := by
  have hl := B_len s
  have HB := Lib.hid hbits
  clear hbits
  go_enter Try.func169, Try.ntmps169
  go_wp2
  go_loop [3, 4] (fun o i => ∃ (k : Nat), 4 * k ≤ s.size ∧ i = .int .i64 ((4 * k : Nat) : Int) ∧ o = .string (bs (P.hexGo k (B s)))) (fun _ i => s.size - (intOf i).toNat)
  case atStart => exact ⟨0, Nat.zero_le _, rfl, rfl⟩
  case round =>
    obtain ⟨k, hk, rfl, rfl⟩ := hrel
    have HL := Lib.hid (P.hexGo_len k (B s))
    by_cases hlt : 4 * k < s.size
    · obtain ⟨u, hu⟩ : ∃ u, s.extract (4 * k) (4 * k + 4) = u := ⟨_, rfl⟩
      have hBu : B u = ((B s).drop (4 * k)).take 4 := by rw [← hu, B_ext]; congr 1; omega
      have hul : u.size ≤ 4 := by rw [← B_len, hBu, List.length_take]; omega
      have HBB := Lib.hid (show (B u).all P.bitB = true by rw [hBu]; exact P.all_take (P.all_drop HB.out _) _)
      obtain ⟨m, hm⟩ : ∃ m, P.numL (B u) = m := ⟨_, rfl⟩
      have hm16 : m < 16 := by rw [← hm]; exact P.num4 (by rw [B_len]; exact hul)
      have hcut := hexS_cut m hm16
      unfold hexS at hcut
      have hadd : ∀ W, (Op.stringOp .add (bs (P.hexGo k (B s))) (bs [P.hexC m])).run Try.prog W = .ok (.string (bs (P.hexGo k (B s) ++ [P.hexC m]))) W := fun W => run_add W _ _ (by simp [HL.out]; omega)
      have HS := Lib.hid (show P.hexGo (k + 1) (B s) = P.hexGo k (B s) ++ [P.hexC m] by rw [P.hexGo_snoc, ← hBu, hm])
      have hn1 : (((4 * k : Nat) : Int) + 4).toNat = 4 * k + 4 := by omega
      have HM := Lib.hid hm
      clear hm hBu
      have hk4 : 4 * k + 4 ≤ s.size := by omega
      go_wp2_with (go_at_call 173; refine (c_l2Number u _ (by omega) HBB.out).mono ?_; rintro e w' ⟨rfl, rfl⟩; rw [HM.out])
      go_round
      case rel => exact ⟨k + 1, by omega, by go_num, by rw [HS.out]⟩
      case measure => simp [intOf]; omega
    · go_wp2
      go_ret
      exact ⟨ret_bs (by unfold P.hexL; rw [hl]; congr 1; omega), rfl⟩
theorem c_implHexOf (s : ByteArray) (w : World) (hs : s.size ≤ maxLen) : Calls Try.prog 60 #[.string s] w fun e w' => e = .returned (.tuple #[.string (bs (hoL (B s))), .bool (hoOk (B s))]) ∧ w = w' := by
  have hl := B_len s
  have hs' := hs
  unfold maxLen at hs'
  cases hb : P.isBits (B s) with
  | false =>
    have HF := Lib.hid (show hoOk (B s) = false by unfold hoOk; rw [hb]; rfl)
    go_enter Try.func60, Try.ntmps60
    go_wp2_with (first | (go_at_call 68; refine (c_implIsBits s _ hs).mono ?_; rintro e w' ⟨rfl, rfl⟩))
    go_ret2
    exact ⟨ret_sb (by unfold hoL; rw [HF.out]; rfl) HF.out.symm, rfl⟩
  | true =>
    by_cases h4 : s.size % 4 = 0
    · have HT := Lib.hid (show hoOk (B s) = true by unfold hoOk; rw [hb, decide_eq_true (by omega)]; rfl)
      have HB := Lib.hid (P.isBits_iff.1 hb).2
      have h64 := (P.isBits_iff.1 hb).1
      have h0 : (((s.size : Int) % 4) != 0) = false := by rw [bne_eq_false_iff_eq]; omega
      go_enter Try.func60, Try.ntmps60
      go_wp2_with (first | (go_at_call 68; refine (c_implIsBits s _ hs).mono ?_; rintro e w' ⟨rfl, rfl⟩) | (go_at_call 167; refine (c_hexOf s _ (by omega) h4 HB.out).mono ?_; rintro e w' ⟨rfl, rfl⟩))
      go_ret2
      exact ⟨ret_sb (by unfold hoL; rw [HT.out]; rfl) HT.out.symm, rfl⟩
    · have HF := Lib.hid (show hoOk (B s) = false by unfold hoOk; rw [hb, decide_eq_false (by omega)]; rfl)
      have h0 : (((s.size : Int) % 4) != 0) = true := by rw [bne_iff_ne]; omega
      go_enter Try.func60, Try.ntmps60
      go_wp2_with (first | (go_at_call 68; refine (c_implIsBits s _ hs).mono ?_; rintro e w' ⟨rfl, rfl⟩))
      go_ret2
      exact ⟨ret_sb (by unfold hoL; rw [HF.out]; rfl) HF.out.symm, rfl⟩
theorem c_specHexOf (s : ByteArray) (w : World) (hs : s.size ≤ maxLen) : Calls Try.prog 62 #[.string s] w fun e w' => e = .returned (.tuple #[.string (bs (hoL (B s))), .bool (hoOk (B s))]) ∧ w = w' := by
  have hl := B_len s
  have hs' := hs
  unfold maxLen at hs'
  cases hb : P.isBits (B s) with
  | false =>
    have HF := Lib.hid (show hoOk (B s) = false by unfold hoOk; rw [hb]; rfl)
    go_enter Try.func62, Try.ntmps62
    go_wp2_with (first | (go_at_call 149; refine (c_l2Good s _ hs).mono ?_; rintro e w' ⟨rfl, rfl⟩))
    go_ret2
    exact ⟨ret_sb (by unfold hoL; rw [HF.out]; rfl) HF.out.symm, rfl⟩
  | true =>
    by_cases h4 : s.size % 4 = 0
    · have HT := Lib.hid (show hoOk (B s) = true by unfold hoOk; rw [hb, decide_eq_true (by omega)]; rfl)
      have HB := Lib.hid (P.isBits_iff.1 hb).2
      have h64 := (P.isBits_iff.1 hb).1
      have h0 : (((s.size : Int) % 4) != 0) = false := by rw [bne_eq_false_iff_eq]; omega
      go_enter Try.func62, Try.ntmps62
      go_wp2_with (first | (go_at_call 149; refine (c_l2Good s _ hs).mono ?_; rintro e w' ⟨rfl, rfl⟩) | (go_at_call 169; refine (c_l2Hex s _ (by omega) h4 HB.out).mono ?_; rintro e w' ⟨rfl, rfl⟩))
      go_ret2
      exact ⟨ret_sb (by unfold hoL; rw [HT.out]; rfl) HT.out.symm, rfl⟩
    · have HF := Lib.hid (show hoOk (B s) = false by unfold hoOk; rw [hb, decide_eq_false (by omega)]; rfl)
      have h0 : (((s.size : Int) % 4) != 0) = true := by rw [bne_iff_ne]; omega
      go_enter Try.func62, Try.ntmps62
      go_wp2_with (first | (go_at_call 149; refine (c_l2Good s _ hs).mono ?_; rintro e w' ⟨rfl, rfl⟩))
      go_ret2
      exact ⟨ret_sb (by unfold hoL; rw [HF.out]; rfl) HF.out.symm, rfl⟩
theorem c_implBitsFromHex (s : ByteArray) (w : World) (hs : s.size ≤ maxLen) : Calls Try.prog 61 #[.string s] w fun e w' => e = .returned (.tuple #[.string (bs (bhL (B s))), .bool (P.unhexOk (B s))]) ∧ Below w.heap.size w w' := by
  have hl := B_len s
  unfold maxLen at hs
  by_cases h16 : 16 < s.size
  · have HF := Lib.hid (unhexOk_long (l := B s) (by omega))
    go_enter Try.func61, Try.ntmps61
    go_wp2
    go_ret2
    exact ⟨ret_sb (by unfold bhL; rw [HF.out]; rfl) HF.out.symm, Below.refl _ _⟩
  · go_enter Try.func61, Try.ntmps61
    go_wp2
    go_loopw [4, 5] (fun o i wr => ∃ (k : Nat) (l : List UInt8), k ≤ s.size ∧ i = .int .i64 k ∧ o = .string (bs l) ∧ l = P.unhexL ((B s).take k) ∧ ((B s).take k).all P.hexB = true ∧ Below w.heap.size w wr) (fun _ i _ => s.size - (intOf i).toNat)
    case atStart => exact ⟨0, [], Nat.zero_le _, rfl, rfl, rfl, rfl, Below.refl _ _⟩
    case round =>
      obtain ⟨k, l, hk, rfl, rfl, hle, hal, hb⟩ := hrel
      have HAL := Lib.hid hal
      have HLE := Lib.hid hle
      have hll : l.length = 4 * k := by rw [hle, P.unhexL_len, List.length_take]; omega
      clear hal hle
      by_cases hlt : k < s.size
      · have hv1 := P.hexV_lt (s[k])
        obtain ⟨v, hv⟩ : ∃ v, P.hexV (s[k]) = v := ⟨_, rfl⟩
        rw [hv] at hv1
        obtain ⟨hva, hvb⟩ := hv1
        by_cases hn : v < 0
        · have HF := Lib.hid (unhexOk_bad (l := B s) (k := k) (by omega) (by rw [B_get s k hlt]; exact hexB_no (by omega)))
          have HV := Lib.hid hv
          clear hv
          go_wp2_with (go_at_call 168; refine (c_hexDigit _ _).mono ?_; rintro e w' ⟨rfl, rfl⟩; rw [HV.out])
          go_ret2
          exact ⟨ret_sb (by unfold bhL; rw [HF.out]; rfl) HF.out.symm, hb⟩
        · obtain ⟨m, rfl⟩ : ∃ m : Nat, v = (m : Int) := ⟨v.toNat, by omega⟩
          have hm : m < 16 := by omega
          have HN := Lib.hid (P.take_all_true HAL.out (by rw [hl]; exact hlt) (by rw [B_get s k hlt]; exact hexB_yes (by omega)))
          have HS := Lib.hid (show P.unhexL ((B s).take (k + 1)) = l ++ P.bitsL m 4 by
            rw [take_snoc s k hlt, P.unhexL_snoc, ← HLE.out, hv]; rfl)
          have HV := Lib.hid hv
          have hbl := P.bitsL_len m 4
          have hadd : ∀ W, (Op.stringOp .add (bs l) (bs (P.bitsL m 4))).run Try.prog W = .ok (.string (bs (l ++ P.bitsL m 4))) W := fun W => run_add W _ _ (by omega)
          have hsz := hb.size
          clear hv hva hvb hbl
          go_wp2_with (first | (go_at_call 168; refine (c_hexDigit _ _).mono ?_; rintro e w' ⟨rfl, rfl⟩; rw [HV.out]) | (go_at_call 165; refine (c_bitsOf m 4 _ (by omega) (by omega)).mono ?_; rintro e w1 ⟨rfl, hb1⟩))
          go_roundw
          case rel => exact ⟨k + 1, _, by omega, by go_num, rfl, HS.out.symm, HN.out, hb.trans (hb1.mono hsz)⟩
          case measure => simp [intOf]; omega
      · have HT := Lib.hid (unhexOk_yes (l := B s) (by omega) (by have := HAL.out; rwa [take_all s k hlt] at this))
        have HR := Lib.hid (show l = P.unhexL (B s) by rw [HLE.out, take_all s k hlt])
        go_wp2
        go_ret2
        exact ⟨ret_sb (by unfold bhL; rw [HT.out, HR.out]; rfl) HT.out.symm, hb⟩
theorem c_l2FromHex (s : ByteArray) (w : World) (hs : s.size ≤ maxLen) : Calls Try.prog 172 #[.string s] w fun e w' => e = .returned (.tuple #[.string (bs (bhL (B s))), .bool (P.unhexOk (B s))]) ∧ Qt w w' := by
  have hl := B_len s
  unfold maxLen at hs
  by_cases h16 : 16 < s.size
  · have HF := Lib.hid (unhexOk_long (l := B s) (by omega))
    go_enter Try.func172, Try.ntmps172
    go_wp2
    go_ret2
    exact ⟨ret_sb (by unfold bhL; rw [HF.out]; rfl) HF.out.symm, Qt.refl _⟩
  · go_enter Try.func172, Try.ntmps172
    go_wp2
    go_loopw [4, 5] (fun o i wr => ∃ (k : Nat) (l : List UInt8), k ≤ s.size ∧ i = .int .i64 k ∧ o = .string (bs l) ∧ l = P.unhexL ((B s).take k) ∧ ((B s).take k).all P.hexB = true ∧ Qt w wr) (fun _ i _ => s.size - (intOf i).toNat)
    case atStart => exact ⟨0, [], Nat.zero_le _, rfl, rfl, rfl, rfl, Qt.refl _⟩
    case round =>
      obtain ⟨k, l, hk, rfl, rfl, hle, hal, hq⟩ := hrel
      have HAL := Lib.hid hal
      have HLE := Lib.hid hle
      have hll : l.length = 4 * k := by rw [hle, P.unhexL_len, List.length_take]; omega
      clear hal hle
      by_cases hlt : k < s.size
      · have hv1 := P.hexV_lt (s[k])
        have hsk := (s[k]).toNat_lt
        have hk0 : 0 ≤ (k : Int) := by omega
        have hk3 : (k : Int) < (s.size : Int) := by omega
        go_wp2
        go_loopw [6, 7] (fun n i wr => ∃ (j : Nat) (n0 : Int), j ≤ 16 ∧ i = .int .i64 j ∧ n = .int .i64 n0 ∧ n0 = (if P.hexV (s[k]) < j then P.hexV (s[k]) else -1) ∧ Qt w wr) (fun _ i _ => 16 - (intOf i).toNat)
        case atStart => exact ⟨0, _, Nat.zero_le _, rfl, rfl, by split <;> omega, hq⟩
        case round =>
          clear hq
          obtain ⟨j, n0, hj, rfl, rfl, hn0, hq⟩ := hrel
          have HN0 := Lib.hid hn0
          clear hn0
          by_cases hlt2 : j < 16
          · have hat := hexS_at j hlt2
            have hj0 : 0 ≤ (j : Int) := by omega
            have hj3 : (j : Int) < 16 := by omega
            by_cases he : P.hexC j = s[k]
            · have e1 : (((hexS[j]'hlt2).toNat : Int) == ((s[k]).toNat : Int)) = true := by rw [hat, he]; exact beq_iff_eq.2 rfl
              unfold hexS at e1
              have HE := Lib.hid (hexV_found hlt2 he)
              clear he hat hv1
              go_wp2
              go_quiet (fail)
              go_wp2
              go_roundw
              case rel => exact ⟨j + 1, _, by omega, by go_num, rfl, by rw [HE.out]; split <;> omega, hq.trans (Qt.of _ _)⟩
              case measure => simp [intOf]; omega
            · have e1 : (((hexS[j]'hlt2).toNat : Int) == ((s[k]).toNat : Int)) = false := by
                rw [hat]; exact beq_eq_false_iff_ne.2 (fun e => he (UInt8.toNat_inj.1 (by omega)))
              unfold hexS at e1
              have HE := Lib.hid (show P.hexV (s[k]) ≠ j from fun e => he (by
                have := P.hexC_hexV (c := s[k]) (by omega)
                rw [e] at this; simpa using this))
              clear he hat hv1
              go_wp2
              go_quiet (fail)
              go_wp2
              go_roundw
              case rel => exact ⟨j + 1, _, by omega, by go_num, rfl, by have := HE.out; have := HN0.out; split <;> (rw [this]; split <;> omega), hq.trans (Qt.of _ _)⟩
              case measure => simp [intOf]; omega
          · have h16 : j = 16 := by omega
            subst h16
            obtain ⟨v, hv⟩ : ∃ v, P.hexV (s[k]) = v := ⟨_, rfl⟩
            rw [hv] at hv1
            obtain ⟨hva, hvb⟩ := hv1
            obtain rfl : n0 = v := by
              have := HN0.out
              rw [hv, if_pos (by omega)] at this
              exact this
            clear HN0
            by_cases hn : n0 < 0
            · have HF := Lib.hid (unhexOk_bad (l := B s) (k := k) (by omega) (by rw [B_get s k hlt]; exact hexB_no (by omega)))
              clear hv
              go_wp2
              go_ret2
              exact ⟨ret_sb (by unfold bhL; rw [HF.out]; rfl) HF.out.symm, hq⟩
            · obtain ⟨m, rfl⟩ : ∃ m : Nat, n0 = (m : Int) := ⟨n0.toNat, by omega⟩
              have hm : m < 16 := by omega
              have HN := Lib.hid (P.take_all_true HAL.out (by rw [hl]; exact hlt) (by rw [B_get s k hlt]; exact hexB_yes (by omega)))
              have HS := Lib.hid (show P.unhexL ((B s).take (k + 1)) = l ++ P.bitsL m 4 by
                rw [take_snoc s k hlt, P.unhexL_snoc, ← HLE.out, hv]; rfl)
              have hbl := P.bitsL_len m 4
              have hadd : ∀ W, (Op.stringOp .add (bs l) (bs (P.bitsL m 4))).run Try.prog W = .ok (.string (bs (l ++ P.bitsL m 4))) W := fun W => run_add W _ _ (by omega)
              clear hv hva hvb hbl
              go_wp2_with (go_at_call 135; refine (c_l2Of m 4 _ (by omega) (by omega)).mono ?_; rintro e w1 ⟨rfl, rfl⟩)
              go_roundw
              case rel => exact ⟨k + 1, _, by omega, by go_num, rfl, HS.out.symm, HN.out, hq⟩
              case measure => simp [intOf]; omega
      · have HT := Lib.hid (unhexOk_yes (l := B s) (by omega) (by have := HAL.out; rwa [take_all s k hlt] at this))
        have HR := Lib.hid (show l = P.unhexL (B s) by rw [HLE.out, take_all s k hlt])
        go_wp2
        go_ret2
        exact ⟨ret_sb (by unfold bhL; rw [HT.out, HR.out]; rfl) HT.out.symm, hq⟩
theorem c_specBitsFromHex (s : ByteArray) (w : World) (hs : s.size ≤ maxLen) : Calls Try.prog 64 #[.string s] w fun e w' => e = .returned (.tuple #[.string (bs (bhL (B s))), .bool (P.unhexOk (B s))]) ∧ Qt w w' := by
  go_enter Try.func64, Try.ntmps64
  go_wp2_with (go_at_call 172; refine (c_l2FromHex s _ hs).mono ?_; rintro e w' ⟨rfl, hq⟩)
  go_ret2
  exact ⟨rfl, hq⟩
end Go.Proofs.Ytfbanjmooknafaa
