/-
  Contracts of the exported functions on bit strings.
-/
import Derived.Test.YtcgbimdlackpeaaB2
namespace Go.Proofs.Ytcgbimdlackpeaa
open Go.RowKit
set_option linter.unusedSimpArgs false
set_option linter.unusedVariables false
set_option maxRecDepth 100000

/-- results of the functions on bit strings -/
def boOk (n wd : Int) : Bool := P.inB wd 0 30 && P.inB n 0 (2 ^ wd.toNat - 1)
def boL (n wd : Int) : List UInt8 := if boOk n wd = true then P.bitsL n.toNat wd.toNat else []
def noOk (l : List UInt8) : Bool := P.isBits l && decide (l.length ≤ 30)
def noI (l : List UInt8) : Int := if noOk l = true then (P.numL l : Int) else 0
def fbOk (l : List UInt8) (i : Int) : Bool := P.isBits l && P.inB i 0 ((l.length : Int) - 1)
def fbL (l : List UInt8) (i : Int) : List UInt8 := if fbOk l i = true then P.flipL l i.toNat else []
def foOk (l : List UInt8) (f wd : Int) : Bool := P.isBits l && P.inB wd 1 30 && P.inB f 0 ((l.length : Int) - wd)
def foI (l : List UInt8) (f wd : Int) : Int := if foOk l f wd = true then (P.numL ((l.drop f.toNat).take wd.toNat) : Int) else 0
def coI (l : List UInt8) : Int := if P.isBits l = true then (P.onesL l : Int) else 0
def xoOk (a b : List UInt8) : Bool := P.isBits a && P.isBits b && decide (a.length = b.length)
def xoL (a b : List UInt8) : List UInt8 := if xoOk a b = true then P.xorL a b else []

theorem two_le (d : Nat) (h : d ≤ 30) : (2 : Int) ^ d ≤ 1073741824 ∧ 1 ≤ (2 : Int) ^ d := by
  have h1 : (2 : Nat) ^ d ≤ 2 ^ 30 := Nat.pow_le_pow_right (by omega) h
  have h2 : 1 ≤ (2 : Nat) ^ d := Nat.one_le_two_pow
  have h3 : ((2 ^ d : Nat) : Int) = (2 : Int) ^ d := by push_cast; rfl
  omega

theorem c_implXorBits (s t : ByteArray) (w : World) (hs : s.size ≤ maxLen) (ht : t.size ≤ maxLen) : Calls Try.prog 16 #[.string s, .string t] w fun e w' => e = .returned (.tuple #[.string (bs (xoL (B s) (B t))), .bool (xoOk (B s) (B t))]) ∧ Below w.heap.size w w' := by
  have hls := B_len s
  have hlt := B_len t
  have hs' := hs
  have ht' := ht
  unfold maxLen at hs' ht'
  cases hb : P.isBits (B s) with
  | false =>
    have HF := Lib.hid (show xoOk (B s) (B t) = false by unfold xoOk; rw [hb]; rfl)
    go_enter Try.func16, Try.ntmps16
    go_wp2_with (first | (go_at_call 46; refine (c_implIsBits _ _ (by first | exact hs | exact ht)).mono ?_; rintro e w' ⟨rfl, rfl⟩))
    go_ret2
    exact ⟨ret_sb (by unfold xoL; rw [HF.out]; rfl) HF.out.symm, Below.refl _ _⟩
  | true =>
    cases hb2 : P.isBits (B t) with
    | false =>
      have HF := Lib.hid (show xoOk (B s) (B t) = false by unfold xoOk; rw [hb, hb2]; rfl)
      go_enter Try.func16, Try.ntmps16
      go_wp2_with (first | (go_at_call 46; refine (c_implIsBits _ _ (by first | exact hs | exact ht)).mono ?_; rintro e w' ⟨rfl, rfl⟩))
      go_ret2
      exact ⟨ret_sb (by unfold xoL; rw [HF.out]; rfl) HF.out.symm, Below.refl _ _⟩
    | true =>
      by_cases hc : s.size = t.size
      · have HT := Lib.hid (show xoOk (B s) (B t) = true by unfold xoOk; rw [hb, hb2, decide_eq_true (by omega)]; rfl)
        have h64 := (P.isBits_iff.1 hb).1
        have hcb : ((s.size : Int) != (t.size : Int)) = false := by rw [bne_eq_false_iff_eq]; omega
        go_enter Try.func16, Try.ntmps16
        go_wp2_with (first | (go_at_call 46; refine (c_implIsBits _ _ (by first | exact hs | exact ht)).mono ?_; rintro e w' ⟨rfl, rfl⟩) | (go_at_call 47; refine (c_xorBits s t _ (by omega) hc.symm).mono ?_; rintro e w1 ⟨rfl, hbl⟩))
        go_ret2
        exact ⟨ret_sb (by unfold xoL; rw [HT.out]; rfl) HT.out.symm, hbl⟩
      · have HF := Lib.hid (show xoOk (B s) (B t) = false by unfold xoOk; rw [hb, hb2, decide_eq_false (by omega)]; rfl)
        have hcb : ((s.size : Int) != (t.size : Int)) = true := by rw [bne_iff_ne]; omega
        go_enter Try.func16, Try.ntmps16
        go_wp2_with (first | (go_at_call 46; refine (c_implIsBits _ _ (by first | exact hs | exact ht)).mono ?_; rintro e w' ⟨rfl, rfl⟩))
        go_ret2
        exact ⟨ret_sb (by unfold xoL; rw [HF.out]; rfl) HF.out.symm, Below.refl _ _⟩
theorem c_specXorBits (s t : ByteArray) (w : World) (hs : s.size ≤ maxLen) (ht : t.size ≤ maxLen) : Calls Try.prog 15 #[.string s, .string t] w fun e w' => e = .returned (.tuple #[.string (bs (xoL (B s) (B t))), .bool (xoOk (B s) (B t))]) ∧ Below w.heap.size w w' := by
  have hls := B_len s
  have hlt := B_len t
  have hs' := hs
  have ht' := ht
  unfold maxLen at hs' ht'
  cases hb : P.isBits (B s) with
  | false =>
    have HF := Lib.hid (show xoOk (B s) (B t) = false by unfold xoOk; rw [hb]; rfl)
    go_enter Try.func15, Try.ntmps15
    go_wp2_with (first | (go_at_call 44; refine (c_l2Good _ _ (by first | exact hs | exact ht)).mono ?_; rintro e w' ⟨rfl, rfl⟩))
    go_ret2
    exact ⟨ret_sb (by unfold xoL; rw [HF.out]; rfl) HF.out.symm, Below.refl _ _⟩
  | true =>
    cases hb2 : P.isBits (B t) with
    | false =>
      have HF := Lib.hid (show xoOk (B s) (B t) = false by unfold xoOk; rw [hb, hb2]; rfl)
      go_enter Try.func15, Try.ntmps15
      go_wp2_with (first | (go_at_call 44; refine (c_l2Good _ _ (by first | exact hs | exact ht)).mono ?_; rintro e w' ⟨rfl, rfl⟩))
      go_ret2
      exact ⟨ret_sb (by unfold xoL; rw [HF.out]; rfl) HF.out.symm, Below.refl _ _⟩
    | true =>
      by_cases hc : s.size = t.size
      · have HT := Lib.hid (show xoOk (B s) (B t) = true by unfold xoOk; rw [hb, hb2, decide_eq_true (by omega)]; rfl)
        have h64 := (P.isBits_iff.1 hb).1
        have hcb : ((s.size : Int) != (t.size : Int)) = false := by rw [bne_eq_false_iff_eq]; omega
        go_enter Try.func15, Try.ntmps15
        go_wp2_with (first | (go_at_call 44; refine (c_l2Good _ _ (by first | exact hs | exact ht)).mono ?_; rintro e w' ⟨rfl, rfl⟩) | (go_at_call 45; refine (c_l2Xor s t _ (by omega) hc.symm).mono ?_; rintro e w1 ⟨rfl, hbl⟩))
        go_ret2
        exact ⟨ret_sb (by unfold xoL; rw [HT.out]; rfl) HT.out.symm, hbl⟩
      · have HF := Lib.hid (show xoOk (B s) (B t) = false by unfold xoOk; rw [hb, hb2, decide_eq_false (by omega)]; rfl)
        have hcb : ((s.size : Int) != (t.size : Int)) = true := by rw [bne_iff_ne]; omega
        go_enter Try.func15, Try.ntmps15
        go_wp2_with (first | (go_at_call 44; refine (c_l2Good _ _ (by first | exact hs | exact ht)).mono ?_; rintro e w' ⟨rfl, rfl⟩))
        go_ret2
        exact ⟨ret_sb (by unfold xoL; rw [HF.out]; rfl) HF.out.symm, Below.refl _ _⟩
theorem l_FnExactXorBits (s t : ByteArray) (w : World) (hs : s.size ≤ maxLen) (ht : t.size ≤ maxLen) : Calls Try.prog 3 #[.string s, .string t] w fun e w' => e = .returned (.bool true) ∧ Below w.heap.size w w' := by
  have hs' := hs
  have ht' := ht
  unfold maxLen at hs' ht'
  by_cases h : s.size ≤ 1048576
  · by_cases h2 : t.size ≤ 1048576
    · go_enter Try.func3, Try.ntmps3
      go_wp2_with (first | (go_at_call 15; refine (c_specXorBits s t _ hs ht).mono ?_; rintro e w1 ⟨rfl, hb1⟩) | (go_at_call 16; refine (c_implXorBits s t _ hs ht).mono ?_; rintro e w2 ⟨rfl, hb2⟩))
      go_ret
      exact ⟨rfl, hb1.trans (hb2.mono hb1.size)⟩
    · go_enter Try.func3, Try.ntmps3
      go_wp2
      go_ret
      exact ⟨rfl, Below.refl _ _⟩
  · go_enter Try.func3, Try.ntmps3
    go_wp2
    go_ret
    exact ⟨rfl, Below.refl _ _⟩
end Go.Proofs.Ytcgbimdlackpeaa
