/-
  Contracts of the functions on parities, syndromes and sound bit strings, and the walks of their laws.
-/
import Derived.Test.YtfbanjmooknafaaQI
namespace Go.Proofs.Ytfbanjmooknafaa
open Go.RowKit
set_option linter.unusedSimpArgs false
set_option linter.unusedVariables false
set_option maxRecDepth 100000

/-- the syndrome is 0 -/
def sndB (l : List UInt8) : Bool := decide (P.synN l = 0)
def paOk (l : List UInt8) : Bool := P.isBits l && decide (l.length ≤ 52)
def paS (l : List UInt8) : List UInt8 := if paOk l = true then P.bitsL (P.parN l) 12 else []
def apS (l : List UInt8) : List UInt8 := if paOk l = true then l ++ P.bitsL (P.parN l) 12 else []
def isB (l : List UInt8) : Bool := crOk l && sndB l
def syS (l : List UInt8) : List UInt8 := if crOk l = true then P.bitsL (P.synN l) 12 else []
def stS (l : List UInt8) : List UInt8 := if isB l = true then l.take (l.length - 12) else []
theorem ret_bb {b b' c c' : Bool} (h : b = b') (h2 : c = c') : Ending.returned (.tuple #[.bool b, .bool c]) = .returned (.tuple #[.bool b', .bool c']) := by rw [h, h2]
theorem pa_no {l : List UInt8} (h : paOk l = false) : paS l = [] ∧ apS l = [] := by unfold paS apS; rw [h]; exact ⟨rfl, rfl⟩
theorem pa_yes {l : List UInt8} (h : paOk l = true) : paS l = P.bitsL (P.parN l) 12 ∧ apS l = l ++ P.bitsL (P.parN l) 12 := by unfold paS apS; rw [h]; exact ⟨rfl, rfl⟩
theorem pa_iff {l : List UInt8} : paOk l = true ↔ (l.length ≤ 64 ∧ l.all P.bitB = true) ∧ l.length ≤ 52 := by unfold paOk; rw [Bool.and_eq_true, P.isBits_iff]; simp
theorem pa_bits {l : List UInt8} (h : P.isBits l = false) : paOk l = false := by unfold paOk; rw [h]; rfl
theorem pa_long {l : List UInt8} (h : 52 < l.length) : paOk l = false := by unfold paOk; rw [decide_eq_false (by omega), Bool.and_false]
theorem cr_bits {l : List UInt8} (h : P.isBits l = false) : crOk l = false := by unfold crOk; rw [h]; rfl
theorem syn_eq0 (n : Nat) : ((n : Int) == 0) = decide (n = 0) := by
  by_cases h0 : n = 0
  · rw [decide_eq_true h0]; exact beq_iff_eq.2 (by omega)
  · rw [decide_eq_false h0]; exact beq_eq_false_iff_ne.2 (by omega)
theorem syn_str {l : List UInt8} (h : l.all P.bitB = true) (h12 : 12 ≤ l.length) : P.xorL (l.drop (l.length - 12)) (P.bitsL (P.parN (l.take (l.length - 12))) 12) = P.bitsL (P.synN l) 12 := by
  have hl : (l.drop (l.length - 12)).length = 12 := by rw [List.length_drop]; omega
  have he : (l.drop (l.length - 12)).length = (P.bitsL (P.parN (l.take (l.length - 12))) 12).length := by rw [hl, P.bitsL_len]
  have h1 := P.numL_xor (P.all_drop h (l.length - 12)) (P.bitsL_bits (P.parN (l.take (l.length - 12))) 12) he
  rw [P.numL_bits (by have := P.parN_lt (l.take (l.length - 12)); omega)] at h1
  have h2 := P.bits_numL (P.xorL_bits (l.drop (l.length - 12)) (P.bitsL (P.parN (l.take (l.length - 12))) 12))
  rw [P.xorL_len he, hl, h1] at h2
  rw [← h2]
  unfold P.synN
  rw [Nat.xor_comm]
theorem c_isCarrier (s : ByteArray) (w : World) (hs : s.size ≤ maxLen) : Calls Try.prog 132 #[.string s] w fun e w' => e = .returned (.bool (crOk (B s))) ∧ w = w' := by
  have hl := B_len s
  cases hb : P.isBits (B s) with
  | false =>
    have HF := Lib.hid (cr_bits hb)
    go_enter Try.func132, Try.ntmps132
    go_wp2_with (go_at_call 68; refine (c_implIsBits s _ hs).mono ?_; rintro e w' ⟨rfl, rfl⟩)
    go_ret
    exact ⟨ret_bool HF.out.symm, rfl⟩
  | true =>
    have HT := Lib.hid (show crOk (B s) = decide (12 ≤ (s.size : Int)) by unfold crOk; rw [hb, Bool.true_and]; exact decide_eq_decide.2 (by omega))
    go_enter Try.func132, Try.ntmps132
    go_wp2_with (go_at_call 68; refine (c_implIsBits s _ hs).mono ?_; rintro e w' ⟨rfl, rfl⟩)
    go_ret
    exact ⟨ret_bool HT.out.symm, rfl⟩
theorem c_syndromeOf (s : ByteArray) (w : World) (h12 : 12 ≤ s.size) (hs : s.size ≤ 64) (hbits : (B s).all P.bitB = true) : Calls Try.prog 133 #[.string s] w fun e w' => e = .returned (.string (bs (P.bitsL (P.synN (B s)) 12))) ∧ Below w.heap.size w w' := by
  have hl := B_len s
  obtain ⟨n, hn⟩ : ∃ n, s.size = n + 12 := ⟨s.size - 12, by omega⟩
  obtain ⟨u, hu⟩ : ∃ u, s.extract 0 n = u := ⟨_, rfl⟩
  obtain ⟨v, hv⟩ : ∃ v, s.extract n s.size = v := ⟨_, rfl⟩
  have hBu : B u = (B s).take n := by rw [← hu, B_ext]; simp
  have hBv : B v = (B s).drop n := by rw [← hv, B_ext, List.take_of_length_le (by rw [List.length_drop]; omega)]
  have hus : u.size ≤ 64 := by rw [← B_len, hBu, List.length_take]; omega
  have hvs : v.size = 12 := by rw [← B_len, hBv, List.length_drop]; omega
  have HU := Lib.hid (show (B u).all P.bitB = true by rw [hBu]; exact P.all_take hbits n)
  obtain ⟨z, hz⟩ : ∃ z, bs (P.bitsL (P.parN (B u)) 12) = z := ⟨_, rfl⟩
  have hzs : z.size = 12 := by rw [← hz, bs_size, P.bitsL_len]
  have HR := Lib.hid (show P.xorL (B v) (B z) = P.bitsL (P.synN (B s)) 12 by
    have := syn_str hbits (by omega)
    rw [hl, hn, Nat.add_sub_cancel] at this
    rw [← hz, B_bs, hBu, hBv]; exact this)
  have HZ := Lib.hid hz
  have HVS := Lib.hid (show v.size ≤ 64 ∧ z.size = v.size from ⟨by omega, by omega⟩)
  have hn1 : ((s.size : Int) - 12).toNat = n := by omega
  have hn0 : 0 ≤ (s.size : Int) - 12 := by omega
  have hn2 : (s.size : Int) - 12 ≤ (s.size : Int) := by omega
  have hw1 : IntKind.i64.wrap ((s.size : Int) - 12) = (s.size : Int) - 12 := IntWalk.i64_in _ (by omega)
  have hi12 : (12 : Int) ≤ (s.size : Int) := by omega
  have HN := Lib.hid hn
  clear hn hz hzs hvs hBu hBv hbits
  go_enter Try.func133, Try.ntmps133
  go_wp2_with fail
  go_region_law (first
    | (go_simp; go_at_call 148; refine (c_parityOf u _ hus HU.out).mono ?_; rintro e w1 ⟨rfl, hb1⟩; rw [HZ.out])
    | (go_simp; go_at_call 142; refine (c_xorBits v z _ HVS.out.1 HVS.out.2).mono ?_; rintro e w2 ⟨rfl, hb2⟩; rw [HR.out]))
  go_wp2
  go_ret
  exact ⟨rfl, Below.trans (show Below w.heap.size w w1 from ⟨hb1.os, hb1.tape, hb1.output, hb1.size, hb1.block⟩) (hb2.mono hb1.size)⟩
theorem ones_syn {n : Nat} (h : n < 4096) : ((P.onesL (P.bitsL n 12) : Int) == 0) = decide (n = 0) := by
  have h1 := P.onesL_zero (P.bitsL_bits n 12)
  rw [P.numL_bits (by omega)] at h1
  by_cases h0 : n = 0
  · rw [decide_eq_true h0]
    have := h1.2 h0
    exact beq_iff_eq.2 (by omega)
  · rw [decide_eq_false h0]
    exact beq_eq_false_iff_ne.2 (fun e => h0 (h1.1 (by omega)))
theorem c_isSound (s : ByteArray) (w : World) (h12 : 12 ≤ s.size) (hs : s.size ≤ 64) (hbits : (B s).all P.bitB = true) : Calls Try.prog 137 #[.string s] w fun e w' => e = .returned (.bool (sndB (B s))) ∧ Below w.heap.size w w' := by
  have HR := Lib.hid (ones_syn (P.synN_lt hbits (by rw [B_len]; exact h12)))
  have HB := Lib.hid hbits
  clear hbits
  obtain ⟨z, hz⟩ : ∃ z, bs (P.bitsL (P.synN (B s)) 12) = z := ⟨_, rfl⟩
  have hzs : z.size ≤ 64 := by rw [← hz, bs_size, P.bitsL_len]; omega
  have HZ := Lib.hid hz
  have HBZ := Lib.hid (show P.onesL (B z) = P.onesL (P.bitsL (P.synN (B s)) 12) by rw [← hz]; rfl)
  clear hz
  go_enter Try.func137, Try.ntmps137
  go_wp2_with (first | (go_at_call 133; refine (c_syndromeOf s _ h12 hs HB.out).mono ?_; rintro e w1 ⟨rfl, hb1⟩; rw [HZ.out]) | (go_at_call 157; refine (c_ones z _ hzs).mono ?_; rintro e w' ⟨rfl, rfl⟩))
  go_ret
  exact ⟨ret_bool (by rw [HBZ.out, HR.out]; rfl), hb1⟩
theorem c_implParityOf (s : ByteArray) (w : World) (hs : s.size ≤ maxLen) : Calls Try.prog 29 #[.string s] w fun e w' => e = .returned (.tuple #[.string (bs (paS (B s))), .bool (paOk (B s))]) ∧ Below w.heap.size w w' := by
  have hl := B_len s
  cases hb : P.isBits (B s) with
  | false =>
    have HF := Lib.hid (pa_bits hb)
    go_enter Try.func29, Try.ntmps29
    go_wp2_with (go_at_call 68; refine (c_implIsBits s _ hs).mono ?_; rintro e w' ⟨rfl, rfl⟩)
    go_ret2
    exact ⟨ret_sb (by rw [(pa_no HF.out).1]; rfl) HF.out.symm, Below.refl _ _⟩
  | true =>
    by_cases h52 : 52 < s.size
    · have HF := Lib.hid (pa_long (l := B s) (by omega))
      go_enter Try.func29, Try.ntmps29
      go_wp2_with (go_at_call 68; refine (c_implIsBits s _ hs).mono ?_; rintro e w' ⟨rfl, rfl⟩)
      go_ret2
      exact ⟨ret_sb (by rw [(pa_no HF.out).1]; rfl) HF.out.symm, Below.refl _ _⟩
    · have HT := Lib.hid (show paOk (B s) = true from pa_iff.2 ⟨P.isBits_iff.1 hb, by omega⟩)
      go_enter Try.func29, Try.ntmps29
      go_wp2_with (first | (go_at_call 68; refine (c_implIsBits s _ hs).mono ?_; rintro e w' ⟨rfl, rfl⟩) | (go_at_call 148; refine (c_parityOf s _ (by omega) (pa_iff.1 HT.out).1.2).mono ?_; rintro e w1 ⟨rfl, hb1⟩))
      go_ret2
      exact ⟨ret_sb (by rw [(pa_yes HT.out).1]) HT.out.symm, hb1⟩
theorem c_specParityOf (s : ByteArray) (w : World) (hs : s.size ≤ maxLen) : Calls Try.prog 30 #[.string s] w fun e w' => e = .returned (.tuple #[.string (bs (paS (B s))), .bool (paOk (B s))]) ∧ w = w' := by
  have hl := B_len s
  cases hb : P.isBits (B s) with
  | false =>
    have HF := Lib.hid (pa_bits hb)
    go_enter Try.func30, Try.ntmps30
    go_wp2_with (go_at_call 149; refine (c_l2Good s _ hs).mono ?_; rintro e w' ⟨rfl, rfl⟩)
    go_ret2
    exact ⟨ret_sb (by rw [(pa_no HF.out).1]; rfl) HF.out.symm, rfl⟩
  | true =>
    by_cases h52 : 52 < s.size
    · have HF := Lib.hid (pa_long (l := B s) (by omega))
      go_enter Try.func30, Try.ntmps30
      go_wp2_with (go_at_call 149; refine (c_l2Good s _ hs).mono ?_; rintro e w' ⟨rfl, rfl⟩)
      go_ret2
      exact ⟨ret_sb (by rw [(pa_no HF.out).1]; rfl) HF.out.symm, rfl⟩
    · have HT := Lib.hid (show paOk (B s) = true from pa_iff.2 ⟨P.isBits_iff.1 hb, by omega⟩)
      have hp := P.parN_lt (B s)
      go_enter Try.func30, Try.ntmps30
      go_wp2_with (first | (go_at_call 149; refine (c_l2Good s _ hs).mono ?_; rintro e w' ⟨rfl, rfl⟩) | (go_at_call 150; refine (c_l4Parity s _ (by omega)).mono ?_; rintro e w' ⟨rfl, rfl⟩) | (go_at_call 135; refine (c_l2Of _ 12 _ (by omega) (by omega)).mono ?_; rintro e w' ⟨rfl, rfl⟩))
      go_ret2
      exact ⟨ret_sb (by rw [(pa_yes HT.out).1]) HT.out.symm, rfl⟩
theorem run_par (W : World) (s : ByteArray) (p : Nat) (hs : s.size ≤ 64) : (Op.stringOp .add s (bs (P.bitsL p 12))).run Try.prog W = .ok (.string (bs (B s ++ P.bitsL p 12))) W := run_add_s W s _ (by rw [B_bs, P.bitsL_len, B_len]; omega)
theorem c_implAddParity (s : ByteArray) (w : World) (hs : s.size ≤ maxLen) : Calls Try.prog 71 #[.string s] w fun e w' => e = .returned (.tuple #[.string (bs (apS (B s))), .bool (paOk (B s))]) ∧ Below w.heap.size w w' := by
  have hl := B_len s
  obtain ⟨p, hp⟩ : ∃ p, paS (B s) = p := ⟨_, rfl⟩
  have HP := Lib.hid hp
  cases hb : paOk (B s) with
  | false =>
    have HF := Lib.hid hb
    clear hp hb
    go_enter Try.func71, Try.ntmps71
    go_wp2_with (go_at_call 29; refine (c_implParityOf s _ hs).mono ?_; rintro e w1 ⟨rfl, hb1⟩; rw [HP.out, HF.out])
    go_ret2
    exact ⟨ret_sb (by rw [(pa_no HF.out).2]; rfl) rfl, hb1⟩
  | true =>
    have HT := Lib.hid hb
    have hadd : ∀ W, (Op.stringOp .add s (bs p)).run Try.prog W = .ok (.string (bs (B s ++ p))) W := fun W => by
      rw [← hp, (pa_yes hb).1]; exact run_par W s _ (by have := (pa_iff.1 hb).1.1; omega)
    have HR := Lib.hid (show B s ++ p = apS (B s) by rw [← hp, (pa_yes hb).1, (pa_yes hb).2])
    clear hp hb
    go_enter Try.func71, Try.ntmps71
    go_wp2_with (go_at_call 29; refine (c_implParityOf s _ hs).mono ?_; rintro e w1 ⟨rfl, hb1⟩; rw [HP.out, HT.out])
    go_ret2
    exact ⟨ret_sb (by rw [B_bs, B_bs, HR.out]) rfl, hb1⟩
theorem c_l4Add (s : ByteArray) (w : World) (hs : s.size ≤ 64) : Calls Try.prog 174 #[.string s] w fun e w' => e = .returned (.string (bs (B s ++ P.bitsL (P.parN (B s)) 12))) ∧ w = w' := by
  have hp := P.parN_lt (B s)
  have hadd := fun W => run_par W s (P.parN (B s)) hs
  go_enter Try.func174, Try.ntmps174
  go_wp2_with (first | (go_at_call 150; refine (c_l4Parity s _ hs).mono ?_; rintro e w' ⟨rfl, rfl⟩) | (go_at_call 135; refine (c_l2Of _ 12 _ (by omega) (by omega)).mono ?_; rintro e w' ⟨rfl, rfl⟩))
  go_ret
  exact ⟨rfl, rfl⟩
theorem c_specAddParity (s : ByteArray) (w : World) (hs : s.size ≤ maxLen) : Calls Try.prog 72 #[.string s] w fun e w' => e = .returned (.tuple #[.string (bs (apS (B s))), .bool (paOk (B s))]) ∧ w = w' := by
  have hl := B_len s
  cases hb : P.isBits (B s) with
  | false =>
    have HF := Lib.hid (pa_bits hb)
    go_enter Try.func72, Try.ntmps72
    go_wp2_with (go_at_call 149; refine (c_l2Good s _ hs).mono ?_; rintro e w' ⟨rfl, rfl⟩)
    go_ret2
    exact ⟨ret_sb (by rw [(pa_no HF.out).2]; rfl) HF.out.symm, rfl⟩
  | true =>
    by_cases h52 : 52 < s.size
    · have HF := Lib.hid (pa_long (l := B s) (by omega))
      go_enter Try.func72, Try.ntmps72
      go_wp2_with (go_at_call 149; refine (c_l2Good s _ hs).mono ?_; rintro e w' ⟨rfl, rfl⟩)
      go_ret2
      exact ⟨ret_sb (by rw [(pa_no HF.out).2]; rfl) HF.out.symm, rfl⟩
    · have HT := Lib.hid (show paOk (B s) = true from pa_iff.2 ⟨P.isBits_iff.1 hb, by omega⟩)
      go_enter Try.func72, Try.ntmps72
      go_wp2_with (first | (go_at_call 149; refine (c_l2Good s _ hs).mono ?_; rintro e w' ⟨rfl, rfl⟩) | (go_at_call 174; refine (c_l4Add s _ (by omega)).mono ?_; rintro e w' ⟨rfl, rfl⟩))
      go_ret2
      exact ⟨ret_sb (by rw [(pa_yes HT.out).2]) HT.out.symm, rfl⟩
theorem c_implSyndromeOf (s : ByteArray) (w : World) (hs : s.size ≤ maxLen) : Calls Try.prog 17 #[.string s] w fun e w' => e = .returned (.tuple #[.string (bs (syS (B s))), .bool (crOk (B s))]) ∧ Below w.heap.size w w' := by
  have hl := B_len s
  cases hc : crOk (B s) with
  | false =>
    have HF := Lib.hid hc
    clear hc
    go_enter Try.func17, Try.ntmps17
    go_wp2_with (go_at_call 132; refine (c_isCarrier s _ hs).mono ?_; rintro e w' ⟨rfl, rfl⟩; rw [HF.out])
    go_ret2
    exact ⟨ret_sb (by unfold syS; rw [HF.out]; rfl) rfl, Below.refl _ _⟩
  | true =>
    have HT := Lib.hid hc
    obtain ⟨⟨h64, hbits⟩, h12⟩ := crOk_iff.1 hc
    rw [hl] at h64 h12
    have HB := Lib.hid hbits
    have hsyn := P.synN_lt hbits (by omega)
    clear hc hbits
    go_enter Try.func17, Try.ntmps17
    go_wp2_with (first | (go_at_call 132; refine (c_isCarrier s _ hs).mono ?_; rintro e w' ⟨rfl, rfl⟩; rw [HT.out]) | (go_at_call 133; refine (c_syndromeOf s _ h12 h64 HB.out).mono ?_; rintro e w1 ⟨rfl, hb1⟩))
    go_ret2
    exact ⟨ret_sb (by unfold syS; rw [HT.out]; rfl) rfl, hb1⟩
theorem c_specSyndromeOf (s : ByteArray) (w : World) (hs : s.size ≤ maxLen) : Calls Try.prog 18 #[.string s] w fun e w' => e = .returned (.tuple #[.string (bs (syS (B s))), .bool (crOk (B s))]) ∧ Below w.heap.size w w' := by
  have hl := B_len s
  cases hc : crOk (B s) with
  | false =>
    have HF := Lib.hid hc
    clear hc
    go_enter Try.func18, Try.ntmps18
    go_wp2_with (go_at_call 134; refine (c_l4Good s _ hs).mono ?_; rintro e w' ⟨rfl, rfl⟩; rw [HF.out])
    go_ret2
    exact ⟨ret_sb (by unfold syS; rw [HF.out]; rfl) rfl, Below.refl _ _⟩
  | true =>
    have HT := Lib.hid hc
    obtain ⟨⟨h64, hbits⟩, h12⟩ := crOk_iff.1 hc
    rw [hl] at h64 h12
    have HB := Lib.hid hbits
    have hsyn := P.synN_lt hbits (by omega)
    clear hc hbits
    go_enter Try.func18, Try.ntmps18
    go_wp2_with (first | (go_at_call 134; refine (c_l4Good s _ hs).mono ?_; rintro e w' ⟨rfl, rfl⟩; rw [HT.out]) | (go_at_call 136; refine (c_l4Syndrome s _ h12 h64 HB.out).mono ?_; rintro e w1 ⟨rfl, hq1⟩) | (go_at_call 135; refine (c_l2Of _ 12 _ (by omega) (by omega)).mono ?_; rintro e w' ⟨rfl, rfl⟩))
    go_ret2
    exact ⟨ret_sb (by unfold syS; rw [HT.out]; rfl) rfl, hq1.below _⟩
theorem c_implIsSound (s : ByteArray) (w : World) (hs : s.size ≤ maxLen) : Calls Try.prog 24 #[.string s] w fun e w' => e = .returned (.tuple #[.bool (isB (B s)), .bool (crOk (B s))]) ∧ Below w.heap.size w w' := by
  have hl := B_len s
  cases hc : crOk (B s) with
  | false =>
    have HF := Lib.hid hc
    clear hc
    go_enter Try.func24, Try.ntmps24
    go_wp2_with (go_at_call 132; refine (c_isCarrier s _ hs).mono ?_; rintro e w' ⟨rfl, rfl⟩; rw [HF.out])
    go_ret2
    exact ⟨ret_bb (by unfold isB; rw [HF.out]; rfl) rfl, Below.refl _ _⟩
  | true =>
    have HT := Lib.hid hc
    obtain ⟨⟨h64, hbits⟩, h12⟩ := crOk_iff.1 hc
    rw [hl] at h64 h12
    have HB := Lib.hid hbits
    have hsyn := P.synN_lt hbits (by omega)
    clear hc hbits
    go_enter Try.func24, Try.ntmps24
    go_wp2_with (first | (go_at_call 132; refine (c_isCarrier s _ hs).mono ?_; rintro e w' ⟨rfl, rfl⟩; rw [HT.out]) | (go_at_call 137; refine (c_isSound s _ h12 h64 HB.out).mono ?_; rintro e w1 ⟨rfl, hb1⟩))
    go_ret2
    exact ⟨ret_bb (by unfold isB; rw [HT.out]; rfl) rfl, hb1⟩

theorem is_iff {l : List UInt8} : isB l = true ↔ crOk l = true ∧ P.synN l = 0 := by unfold isB sndB; rw [Bool.and_eq_true, decide_eq_true_eq]
theorem st_no {l : List UInt8} (h : isB l = false) : stS l = [] := by unfold stS; rw [h]; rfl
theorem st_yes {l : List UInt8} (h : isB l = true) : stS l = l.take (l.length - 12) := by unfold stS; rw [h]; rfl
theorem c_implStripParity (s : ByteArray) (w : World) (hs : s.size ≤ maxLen) : Calls Try.prog 73 #[.string s] w fun e w' => e = .returned (.tuple #[.string (bs (stS (B s))), .bool (isB (B s))]) ∧ Below w.heap.size w w' := by
  have hl := B_len s
  cases hc : crOk (B s) with
  | false =>
    have HF := Lib.hid (show isB (B s) = false by unfold isB; rw [hc]; rfl)
    have HC := Lib.hid hc
    clear hc
    go_enter Try.func73, Try.ntmps73
    go_wp2_with (go_at_call 132; refine (c_isCarrier s _ hs).mono ?_; rintro e w' ⟨rfl, rfl⟩; rw [HC.out])
    go_ret2
    exact ⟨ret_sb (by rw [st_no HF.out]; rfl) HF.out.symm, Below.refl _ _⟩
  | true =>
    have HC := Lib.hid hc
    obtain ⟨⟨h64, hbits⟩, h12⟩ := crOk_iff.1 hc
    rw [hl] at h64 h12
    have HB := Lib.hid hbits
    cases hsn : sndB (B s) with
    | false =>
      have HF := Lib.hid (show isB (B s) = false by unfold isB; rw [hsn, Bool.and_false])
      have HS := Lib.hid hsn
      clear hc hbits hsn
      go_enter Try.func73, Try.ntmps73
      go_wp2_with (first | (go_at_call 132; refine (c_isCarrier s _ hs).mono ?_; rintro e w' ⟨rfl, rfl⟩; rw [HC.out]) | (go_at_call 137; refine (c_isSound s _ h12 h64 HB.out).mono ?_; rintro e w1 ⟨rfl, hb1⟩; rw [HS.out]))
      go_ret2
      exact ⟨ret_sb (by rw [st_no HF.out]; rfl) HF.out.symm, hb1⟩
    | true =>
      have HT := Lib.hid (show isB (B s) = true by unfold isB; rw [hsn, hc]; rfl)
      have HS := Lib.hid hsn
      obtain ⟨n, hn⟩ : ∃ n, s.size = n + 12 := ⟨s.size - 12, by omega⟩
      have hn1 : ((s.size : Int) - 12).toNat = n := by omega
      have hn0 : 0 ≤ (s.size : Int) - 12 := by omega
      have hn2 : (s.size : Int) - 12 ≤ (s.size : Int) := by omega
      have hi12 : (12 : Int) ≤ (s.size : Int) := by omega
      have HE := Lib.hid (show B (s.extract 0 n) = stS (B s) by rw [st_yes HT.out, B_ext, hl, hn]; simp)
      clear hc hbits hsn hn
      go_enter Try.func73, Try.ntmps73
      go_wp2_with (first | (go_at_call 132; refine (c_isCarrier s _ hs).mono ?_; rintro e w' ⟨rfl, rfl⟩; rw [HC.out]) | (go_at_call 137; refine (c_isSound s _ h12 h64 HB.out).mono ?_; rintro e w1 ⟨rfl, hb1⟩; rw [HS.out]))
      go_ret2
      exact ⟨ret_sb HE.out HT.out.symm, hb1⟩
theorem same_below {w w' : World} (h : w = w') : Below w.heap.size w w' := by rw [h]; exact Below.refl _ _

end Go.Proofs.Ytfbanjmooknafaa
