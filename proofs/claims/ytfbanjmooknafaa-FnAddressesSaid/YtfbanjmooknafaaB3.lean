/-
  Contracts of the exported functions on bit strings.
-/
import Derived.Test.YtfbanjmooknafaaB2
namespace Go.Proofs.Ytfbanjmooknafaa
open Go.RowKit
set_option linter.unusedSimpArgs false
set_option linter.unusedVariables false
set_option maxRecDepth 100000

/-- results of the functions on bit strings -/
def boOk (n wd : Int) : Bool := P.inB wd 0 30 && P.inB n 0 (2 ^ wd.toNat - 1)
def boL (n wd : Int) : List UInt8 := if boOk n wd = true then P.bitsL n.toNat wd.toNat else []
def noOk (l : List UInt8) : Bool := P.isBits l && decide (l.length ≤ 30)
def noI (l : List UInt8) : Int := if noOk l = true then (P.numL l : Int) else 0
def fbOk (l : List UInt8) (i : Int) : Bool := P.isBits l && P.inB i 0 ((l.length : Int) - 1)
def fbL (l : List UInt8) (i : Int) : List UInt8 := if fbOk l i = true then P.flipL l i.toNat else []
def foOk (l : List UInt8) (f wd : Int) : Bool := P.isBits l && P.inB wd 1 30 && P.inB f 0 ((l.length : Int) - wd)
def foI (l : List UInt8) (f wd : Int) : Int := if foOk l f wd = true then (P.numL ((l.drop f.toNat).take wd.toNat) : Int) else 0
def coI (l : List UInt8) : Int := if P.isBits l = true then (P.onesL l : Int) else 0
def xoOk (a b : List UInt8) : Bool := P.isBits a && P.isBits b && decide (a.length = b.length)
def xoL (a b : List UInt8) : List UInt8 := if xoOk a b = true then P.xorL a b else []

theorem two_le (d : Nat) (h : d ≤ 30) : (2 : Int) ^ d ≤ 1073741824 ∧ 1 ≤ (2 : Int) ^ d := by
  have h1 : (2 : Nat) ^ d ≤ 2 ^ 30 := Nat.pow_le_pow_right (by omega) h
  have h2 : 1 ≤ (2 : Nat) ^ d := Nat.one_le_two_pow
  have h3 : ((2 ^ d : Nat) : Int) = (2 : Int) ^ d := by push_cast; rfl
  omega

theorem c_specIsBits (s : ByteArray) (w : World) (hs : s.size ≤ maxLen) : Calls Try.prog 69 #[.string s] w fun e w' => e = .returned (.bool (P.isBits (B s))) ∧ w = w' := by
  go_enter Try.func69, Try.ntmps69
  go_wp2_with (go_at_call 149; refine (c_l2Good s _ hs).mono ?_; rintro e w' ⟨rfl, rfl⟩)
  go_ret
  exact ⟨rfl, rfl⟩
theorem c_implBitsOf (n wd : Int) (w : World) : Calls Try.prog 56 #[.int .i64 n, .int .i64 wd] w fun e w' => e = .returned (.tuple #[.string (bs (boL n wd)), .bool (boOk n wd)]) ∧ Below w.heap.size w w' := by
  cases hwd : P.inB wd 0 30 with
  | false =>
    have HF := Lib.hid (show boOk n wd = false by unfold boOk; rw [hwd]; rfl)
    go_enter Try.func56, Try.ntmps56
    go_wp2_with (first | (go_at_call 141; refine (c_within _ _ _ _).mono ?_; rintro e w' ⟨rfl, rfl⟩))
    go_ret2
    exact ⟨ret_sb (by unfold boL; rw [HF.out]; rfl) HF.out.symm, Below.refl _ _⟩
  | true =>
    obtain ⟨d0, d1⟩ := P.inB_iff.1 hwd
    obtain ⟨d, rfl⟩ : ∃ d : Nat, wd = (d : Int) := ⟨wd.toNat, by omega⟩
    have hd : d ≤ 30 := by omega
    have h2 := two_le d hd
    obtain ⟨h2a, h2b⟩ := h2
    have hq1 : wrap64 (2 ^ d) = 2 ^ d := by unfold wrap64; omega
    have hq2 : wrap64 (2 ^ d - 1) = 2 ^ d - 1 := by unfold wrap64; omega
    cases hn : P.inB n 0 (wrap64 (wrap64 (2 ^ d) - 1)) with
    | false =>
      have HF := Lib.hid (show boOk n d = false by unfold boOk; rw [hwd, ← hn, hq1, hq2]; rfl)
      clear hq1 hq2 h2a h2b
      go_enter Try.func56, Try.ntmps56
      go_wp2_with (first | (go_at_call 141; refine (c_within _ _ _ _).mono ?_; rintro e w' ⟨rfl, rfl⟩))
      go_ret2
      exact ⟨ret_sb (by unfold boL; rw [HF.out]; rfl) HF.out.symm, Below.refl _ _⟩
    | true =>
      have hn' := hn
      rw [hq1, hq2] at hn'
      have HT := Lib.hid (show boOk n d = true by unfold boOk; rw [hwd, Int.toNat_natCast, hn']; rfl)
      obtain ⟨n0, n1⟩ := P.inB_iff.1 hn'
      obtain ⟨m, rfl⟩ : ∃ m : Nat, n = (m : Int) := ⟨n.toNat, by omega⟩
      have hm : m ≤ 1073741823 := by omega
      clear hq1 hq2 h2a h2b hn' n1
      go_enter Try.func56, Try.ntmps56
      go_wp2_with (first | (go_at_call 141; refine (c_within _ _ _ _).mono ?_; rintro e w' ⟨rfl, rfl⟩) | (go_at_call 165; refine (c_bitsOf m d _ hm (by omega)).mono ?_; rintro e w1 ⟨rfl, hb⟩))
      go_ret2
      exact ⟨ret_sb (by unfold boL; rw [HT.out]; rfl) HT.out.symm, hb⟩
theorem c_specBitsOf (n wd : Int) (w : World) : Calls Try.prog 58 #[.int .i64 n, .int .i64 wd] w fun e w' => e = .returned (.tuple #[.string (bs (boL n wd)), .bool (boOk n wd)]) ∧ Below w.heap.size w w' := by
  cases hwd : P.inB wd 0 30 with
  | false =>
    have HF := Lib.hid (show boOk n wd = false by unfold boOk; rw [hwd]; rfl)
    go_enter Try.func58, Try.ntmps58
    go_wp2_with (first | (go_at_call 145; refine (c_l1In _ _ _ _).mono ?_; rintro e w' ⟨rfl, rfl⟩))
    go_ret2
    exact ⟨ret_sb (by unfold boL; rw [HF.out]; rfl) HF.out.symm, Below.refl _ _⟩
  | true =>
    obtain ⟨d0, d1⟩ := P.inB_iff.1 hwd
    obtain ⟨d, rfl⟩ : ∃ d : Nat, wd = (d : Int) := ⟨wd.toNat, by omega⟩
    have hd : d ≤ 30 := by omega
    have h2 := two_le d hd
    obtain ⟨h2a, h2b⟩ := h2
    have hq1 : wrap64 (2 ^ d) = 2 ^ d := by unfold wrap64; omega
    have hq2 : wrap64 (2 ^ d - 1) = 2 ^ d - 1 := by unfold wrap64; omega
    cases hn : P.inB n 0 (wrap64 (wrap64 (2 ^ d) - 1)) with
    | false =>
      have HF := Lib.hid (show boOk n d = false by unfold boOk; rw [hwd, ← hn, hq1, hq2]; rfl)
      clear hq1 hq2 h2a h2b
      go_enter Try.func58, Try.ntmps58
      go_wp2_with (first | (go_at_call 145; refine (c_l1In _ _ _ _).mono ?_; rintro e w' ⟨rfl, rfl⟩))
      go_ret2
      exact ⟨ret_sb (by unfold boL; rw [HF.out]; rfl) HF.out.symm, Below.refl _ _⟩
    | true =>
      have hn' := hn
      rw [hq1, hq2] at hn'
      have HT := Lib.hid (show boOk n d = true by unfold boOk; rw [hwd, Int.toNat_natCast, hn']; rfl)
      obtain ⟨n0, n1⟩ := P.inB_iff.1 hn'
      obtain ⟨m, rfl⟩ : ∃ m : Nat, n = (m : Int) := ⟨n.toNat, by omega⟩
      have hm : m ≤ 1073741823 := by omega
      clear hq1 hq2 h2a h2b hn' n1
      go_enter Try.func58, Try.ntmps58
      go_wp2_with (first | (go_at_call 145; refine (c_l1In _ _ _ _).mono ?_; rintro e w' ⟨rfl, rfl⟩) | (go_at_call 135; refine (c_l2Of m d _ hm (by omega)).mono ?_; rintro e w1 ⟨rfl, hb⟩))
      go_ret2
      exact ⟨ret_sb (by unfold boL; rw [HT.out]; rfl) HT.out.symm, (hb▸Below.refl _ _)⟩
theorem c_implNumberOf (s : ByteArray) (w : World) (hs : s.size ≤ maxLen) : Calls Try.prog 57 #[.string s] w fun e w' => e = .returned (.tuple #[.int .i64 (noI (B s)), .bool (noOk (B s))]) ∧ w = w' := by
  have hl := B_len s
  have hs' := hs
  unfold maxLen at hs'
  cases hb : P.isBits (B s) with
  | false =>
    have HF := Lib.hid (show noOk (B s) = false by unfold noOk; rw [hb]; rfl)
    go_enter Try.func57, Try.ntmps57
    go_wp2_with (first | (go_at_call 68; refine (c_implIsBits s _ hs).mono ?_; rintro e w' ⟨rfl, rfl⟩))
    go_ret2
    exact ⟨ret_ib (by unfold noI; rw [HF.out]; rfl) HF.out.symm, rfl⟩
  | true =>
    by_cases h30 : s.size ≤ 30
    · have HT := Lib.hid (show noOk (B s) = true by unfold noOk; rw [hb, decide_eq_true (by omega)]; rfl)
      have HB := Lib.hid (P.isBits_iff.1 hb).2
      go_enter Try.func57, Try.ntmps57
      go_wp2_with (first | (go_at_call 68; refine (c_implIsBits s _ hs).mono ?_; rintro e w' ⟨rfl, rfl⟩) | (go_at_call 166; refine (c_numberOf s _ h30 HB.out).mono ?_; rintro e w' ⟨rfl, rfl⟩))
      go_ret2
      exact ⟨ret_ib (by unfold noI; rw [HT.out]; rfl) HT.out.symm, rfl⟩
    · have HF := Lib.hid (show noOk (B s) = false by unfold noOk; rw [hb, decide_eq_false (by omega)]; rfl)
      go_enter Try.func57, Try.ntmps57
      go_wp2_with (first | (go_at_call 68; refine (c_implIsBits s _ hs).mono ?_; rintro e w' ⟨rfl, rfl⟩))
      go_ret2
      exact ⟨ret_ib (by unfold noI; rw [HF.out]; rfl) HF.out.symm, rfl⟩
theorem c_implCountOnes (s : ByteArray) (w : World) (hs : s.size ≤ maxLen) : Calls Try.prog 41 #[.string s] w fun e w' => e = .returned (.tuple #[.int .i64 (coI (B s)), .bool (P.isBits (B s))]) ∧ w = w' := by
  have hl := B_len s
  cases hb : P.isBits (B s) with
  | false =>
    have HF := Lib.hid hb
    go_enter Try.func41, Try.ntmps41
    go_wp2_with (first | (go_at_call 68; refine (c_implIsBits s _ hs).mono ?_; rintro e w' ⟨rfl, rfl⟩))
    go_ret2
    exact ⟨ret_ib (by unfold coI; rw [HF.out]; rfl) rfl, rfl⟩
  | true =>
    have HT := Lib.hid hb
    have h64 := (P.isBits_iff.1 hb).1
    go_enter Try.func41, Try.ntmps41
    go_wp2_with (first | (go_at_call 68; refine (c_implIsBits s _ hs).mono ?_; rintro e w' ⟨rfl, rfl⟩) | (go_at_call 157; refine (c_ones s _ (by omega)).mono ?_; rintro e w' ⟨rfl, rfl⟩))
    go_ret2
    exact ⟨ret_ib (by unfold coI; rw [HT.out]; rfl) rfl, rfl⟩
theorem c_implXorBits (s t : ByteArray) (w : World) (hs : s.size ≤ maxLen) (ht : t.size ≤ maxLen) : Calls Try.prog 23 #[.string s, .string t] w fun e w' => e = .returned (.tuple #[.string (bs (xoL (B s) (B t))), .bool (xoOk (B s) (B t))]) ∧ Below w.heap.size w w' := by
  have hls := B_len s
  have hlt := B_len t
  have hs' := hs
  have ht' := ht
  unfold maxLen at hs' ht'
  cases hb : P.isBits (B s) with
  | false =>
    have HF := Lib.hid (show xoOk (B s) (B t) = false by unfold xoOk; rw [hb]; rfl)
    go_enter Try.func23, Try.ntmps23
    go_wp2_with (first | (go_at_call 68; refine (c_implIsBits _ _ (by first | exact hs | exact ht)).mono ?_; rintro e w' ⟨rfl, rfl⟩))
    go_ret2
    exact ⟨ret_sb (by unfold xoL; rw [HF.out]; rfl) HF.out.symm, Below.refl _ _⟩
  | true =>
    cases hb2 : P.isBits (B t) with
    | false =>
      have HF := Lib.hid (show xoOk (B s) (B t) = false by unfold xoOk; rw [hb, hb2]; rfl)
      go_enter Try.func23, Try.ntmps23
      go_wp2_with (first | (go_at_call 68; refine (c_implIsBits _ _ (by first | exact hs | exact ht)).mono ?_; rintro e w' ⟨rfl, rfl⟩))
      go_ret2
      exact ⟨ret_sb (by unfold xoL; rw [HF.out]; rfl) HF.out.symm, Below.refl _ _⟩
    | true =>
      by_cases hc : s.size = t.size
      · have HT := Lib.hid (show xoOk (B s) (B t) = true by unfold xoOk; rw [hb, hb2, decide_eq_true (by omega)]; rfl)
        have h64 := (P.isBits_iff.1 hb).1
        have hcb : ((s.size : Int) != (t.size : Int)) = false := by rw [bne_eq_false_iff_eq]; omega
        go_enter Try.func23, Try.ntmps23
        go_wp2_with (first | (go_at_call 68; refine (c_implIsBits _ _ (by first | exact hs | exact ht)).mono ?_; rintro e w' ⟨rfl, rfl⟩) | (go_at_call 142; refine (c_xorBits s t _ (by omega) hc.symm).mono ?_; rintro e w1 ⟨rfl, hbl⟩))
        go_ret2
        exact ⟨ret_sb (by unfold xoL; rw [HT.out]; rfl) HT.out.symm, hbl⟩
      · have HF := Lib.hid (show xoOk (B s) (B t) = false by unfold xoOk; rw [hb, hb2, decide_eq_false (by omega)]; rfl)
        have hcb : ((s.size : Int) != (t.size : Int)) = true := by rw [bne_iff_ne]; omega
        go_enter Try.func23, Try.ntmps23
        go_wp2_with (first | (go_at_call 68; refine (c_implIsBits _ _ (by first | exact hs | exact ht)).mono ?_; rintro e w' ⟨rfl, rfl⟩))
        go_ret2
        exact ⟨ret_sb (by unfold xoL; rw [HF.out]; rfl) HF.out.symm, Below.refl _ _⟩
theorem c_specXorBits (s t : ByteArray) (w : World) (hs : s.size ≤ maxLen) (ht : t.size ≤ maxLen) : Calls Try.prog 43 #[.string s, .string t] w fun e w' => e = .returned (.tuple #[.string (bs (xoL (B s) (B t))), .bool (xoOk (B s) (B t))]) ∧ Below w.heap.size w w' := by
  have hls := B_len s
  have hlt := B_len t
  have hs' := hs
  have ht' := ht
  unfold maxLen at hs' ht'
  cases hb : P.isBits (B s) with
  | false =>
    have HF := Lib.hid (show xoOk (B s) (B t) = false by unfold xoOk; rw [hb]; rfl)
    go_enter Try.func43, Try.ntmps43
    go_wp2_with (first | (go_at_call 149; refine (c_l2Good _ _ (by first | exact hs | exact ht)).mono ?_; rintro e w' ⟨rfl, rfl⟩))
    go_ret2
    exact ⟨ret_sb (by unfold xoL; rw [HF.out]; rfl) HF.out.symm, Below.refl _ _⟩
  | true =>
    cases hb2 : P.isBits (B t) with
    | false =>
      have HF := Lib.hid (show xoOk (B s) (B t) = false by unfold xoOk; rw [hb, hb2]; rfl)
      go_enter Try.func43, Try.ntmps43
      go_wp2_with (first | (go_at_call 149; refine (c_l2Good _ _ (by first | exact hs | exact ht)).mono ?_; rintro e w' ⟨rfl, rfl⟩))
      go_ret2
      exact ⟨ret_sb (by unfold xoL; rw [HF.out]; rfl) HF.out.symm, Below.refl _ _⟩
    | true =>
      by_cases hc : s.size = t.size
      · have HT := Lib.hid (show xoOk (B s) (B t) = true by unfold xoOk; rw [hb, hb2, decide_eq_true (by omega)]; rfl)
        have h64 := (P.isBits_iff.1 hb).1
        have hcb : ((s.size : Int) != (t.size : Int)) = false := by rw [bne_eq_false_iff_eq]; omega
        go_enter Try.func43, Try.ntmps43
        go_wp2_with (first | (go_at_call 149; refine (c_l2Good _ _ (by first | exact hs | exact ht)).mono ?_; rintro e w' ⟨rfl, rfl⟩) | (go_at_call 158; refine (c_l2Xor s t _ (by omega) hc.symm).mono ?_; rintro e w1 ⟨rfl, hbl⟩))
        go_ret2
        exact ⟨ret_sb (by unfold xoL; rw [HT.out]; rfl) HT.out.symm, hbl⟩
      · have HF := Lib.hid (show xoOk (B s) (B t) = false by unfold xoOk; rw [hb, hb2, decide_eq_false (by omega)]; rfl)
        have hcb : ((s.size : Int) != (t.size : Int)) = true := by rw [bne_iff_ne]; omega
        go_enter Try.func43, Try.ntmps43
        go_wp2_with (first | (go_at_call 149; refine (c_l2Good _ _ (by first | exact hs | exact ht)).mono ?_; rintro e w' ⟨rfl, rfl⟩))
        go_ret2
        exact ⟨ret_sb (by unfold xoL; rw [HF.out]; rfl) HF.out.symm, Below.refl _ _⟩
theorem c_implFlipBit (s : ByteArray) (i : Int) (w : World) (hs : s.size ≤ maxLen) : Calls Try.prog 21 #[.string s, .int .i64 i] w fun e w' => e = .returned (.tuple #[.string (bs (fbL (B s) i)), .bool (fbOk (B s) i)]) ∧ Below w.heap.size w w' := by
  have hl := B_len s
  have hs' := hs
  unfold maxLen at hs'
  cases hb : P.isBits (B s) with
  | false =>
    have HF := Lib.hid (show fbOk (B s) i = false by unfold fbOk; rw [hb]; rfl)
    go_enter Try.func21, Try.ntmps21
    go_wp2_with (first | (go_at_call 68; refine (c_implIsBits s _ hs).mono ?_; rintro e w' ⟨rfl, rfl⟩))
    go_ret2
    exact ⟨ret_sb (by unfold fbL; rw [HF.out]; rfl) HF.out.symm, Below.refl _ _⟩
  | true =>
    cases hi : P.inB i 0 ((s.size : Int) - 1) with
    | false =>
      have HF := Lib.hid (show fbOk (B s) i = false by unfold fbOk; rw [hb, hl, hi]; rfl)
      go_enter Try.func21, Try.ntmps21
      go_wp2_with (first | (go_at_call 68; refine (c_implIsBits s _ hs).mono ?_; rintro e w' ⟨rfl, rfl⟩) | (go_at_call 141; refine (c_within _ _ _ _).mono ?_; rintro e w' ⟨rfl, rfl⟩))
      go_ret2
      exact ⟨ret_sb (by unfold fbL; rw [HF.out]; rfl) HF.out.symm, Below.refl _ _⟩
    | true =>
      have HT := Lib.hid (show fbOk (B s) i = true by unfold fbOk; rw [hb, hl, hi]; rfl)
      obtain ⟨i0, i1⟩ := P.inB_iff.1 hi
      obtain ⟨k, rfl⟩ : ∃ k : Nat, i = (k : Int) := ⟨i.toNat, by omega⟩
      have HB := Lib.hid (P.isBits_iff.1 hb).2
      have h64 := (P.isBits_iff.1 hb).1
      go_enter Try.func21, Try.ntmps21
      go_wp2_with (first | (go_at_call 68; refine (c_implIsBits s _ hs).mono ?_; rintro e w' ⟨rfl, rfl⟩) | (go_at_call 141; refine (c_within _ _ _ _).mono ?_; rintro e w' ⟨rfl, rfl⟩) | (go_at_call 138; refine (c_flip s k _ (by omega) (by omega) HB.out).mono ?_; rintro e w1 ⟨rfl, hbl⟩))
      go_ret2
      exact ⟨ret_sb (by unfold fbL; rw [HT.out]; rfl) HT.out.symm, hbl⟩
theorem c_specFlipBit (s : ByteArray) (i : Int) (w : World) (hs : s.size ≤ maxLen) : Calls Try.prog 40 #[.string s, .int .i64 i] w fun e w' => e = .returned (.tuple #[.string (bs (fbL (B s) i)), .bool (fbOk (B s) i)]) ∧ Below w.heap.size w w' := by
  have hl := B_len s
  have hs' := hs
  unfold maxLen at hs'
  cases hb : P.isBits (B s) with
  | false =>
    have HF := Lib.hid (show fbOk (B s) i = false by unfold fbOk; rw [hb]; rfl)
    go_enter Try.func40, Try.ntmps40
    go_wp2_with (first | (go_at_call 149; refine (c_l2Good s _ hs).mono ?_; rintro e w' ⟨rfl, rfl⟩))
    go_ret2
    exact ⟨ret_sb (by unfold fbL; rw [HF.out]; rfl) HF.out.symm, Below.refl _ _⟩
  | true =>
    cases hi : P.inB i 0 ((s.size : Int) - 1) with
    | false =>
      have HF := Lib.hid (show fbOk (B s) i = false by unfold fbOk; rw [hb, hl, hi]; rfl)
      go_enter Try.func40, Try.ntmps40
      go_wp2_with (first | (go_at_call 149; refine (c_l2Good s _ hs).mono ?_; rintro e w' ⟨rfl, rfl⟩) | (go_at_call 145; refine (c_l1In _ _ _ _).mono ?_; rintro e w' ⟨rfl, rfl⟩))
      go_ret2
      exact ⟨ret_sb (by unfold fbL; rw [HF.out]; rfl) HF.out.symm, Below.refl _ _⟩
    | true =>
      have HT := Lib.hid (show fbOk (B s) i = true by unfold fbOk; rw [hb, hl, hi]; rfl)
      obtain ⟨i0, i1⟩ := P.inB_iff.1 hi
      obtain ⟨k, rfl⟩ : ∃ k : Nat, i = (k : Int) := ⟨i.toNat, by omega⟩
      have HB := Lib.hid (P.isBits_iff.1 hb).2
      have h64 := (P.isBits_iff.1 hb).1
      go_enter Try.func40, Try.ntmps40
      go_wp2_with (first | (go_at_call 149; refine (c_l2Good s _ hs).mono ?_; rintro e w' ⟨rfl, rfl⟩) | (go_at_call 145; refine (c_l1In _ _ _ _).mono ?_; rintro e w' ⟨rfl, rfl⟩) | (go_at_call 156; refine (c_l2Flip s k _ (by omega) (by omega) HB.out).mono ?_; rintro e w1 ⟨rfl, hbl⟩))
      go_ret2
      exact ⟨ret_sb (by unfold fbL; rw [HT.out]; rfl) HT.out.symm, hbl.below _⟩
theorem c_implFieldOf (s : ByteArray) (f wd : Int) (w : World) (hs : s.size ≤ maxLen) (wf1 : (Lit.int .i64 wd).wf = true) : Calls Try.prog 66 #[.string s, .int .i64 f, .int .i64 wd] w fun e w' => e = .returned (.tuple #[.int .i64 (foI (B s) f wd), .bool (foOk (B s) f wd)]) ∧ w = w' := by
  have hl := B_len s
  have hs' := hs
  unfold maxLen at hs'
  cases hb : P.isBits (B s) with
  | false =>
    have HF := Lib.hid (show foOk (B s) f wd = false by unfold foOk; rw [hb]; rfl)
    go_enter Try.func66, Try.ntmps66
    go_wp2_with (first | (go_at_call 68; refine (c_implIsBits s _ hs).mono ?_; rintro e w' ⟨rfl, rfl⟩))
    go_ret2
    exact ⟨ret_ib (by unfold foI; rw [HF.out]; rfl) HF.out.symm, rfl⟩
  | true =>
    cases hwd : P.inB wd 1 30 with
    | false =>
      have HF := Lib.hid (show foOk (B s) f wd = false by unfold foOk; rw [hb, hwd]; rfl)
      go_enter Try.func66, Try.ntmps66
      go_wp2_with (first | (go_at_call 68; refine (c_implIsBits s _ hs).mono ?_; rintro e w' ⟨rfl, rfl⟩) | (go_at_call 141; refine (c_within _ _ _ _).mono ?_; rintro e w' ⟨rfl, rfl⟩))
      go_ret2
      exact ⟨ret_ib (by unfold foI; rw [HF.out]; rfl) HF.out.symm, rfl⟩
    | true =>
      obtain ⟨d0, d1⟩ := P.inB_iff.1 hwd
      obtain ⟨d, rfl⟩ : ∃ d : Nat, wd = (d : Int) := ⟨wd.toNat, by omega⟩
      clear wf1
      cases hf : P.inB f 0 ((s.size : Int) - d) with
      | false =>
        have HF := Lib.hid (show foOk (B s) f d = false by unfold foOk; rw [hb, hwd, hl, hf]; rfl)
        go_enter Try.func66, Try.ntmps66
        go_wp2_with (first | (go_at_call 68; refine (c_implIsBits s _ hs).mono ?_; rintro e w' ⟨rfl, rfl⟩) | (go_at_call 141; refine (c_within _ _ _ _).mono ?_; rintro e w' ⟨rfl, rfl⟩))
        go_ret2
        exact ⟨ret_ib (by unfold foI; rw [HF.out]; rfl) HF.out.symm, rfl⟩
      | true =>
        have HT := Lib.hid (show foOk (B s) f d = true by unfold foOk; rw [hb, hwd, hl, hf]; rfl)
        obtain ⟨f0, f1⟩ := P.inB_iff.1 hf
        obtain ⟨k, rfl⟩ : ∃ k : Nat, f = (k : Int) := ⟨f.toNat, by omega⟩
        have h64 := (P.isBits_iff.1 hb).1
        obtain ⟨u, hu⟩ : ∃ u, s.extract k (k + d) = u := ⟨_, rfl⟩
        have hBu : B u = ((B s).drop k).take d := by rw [← hu, B_ext]; congr 1; omega
        have hul : u.size ≤ 30 := by rw [← B_len, hBu, List.length_take]; omega
        have HB := Lib.hid (show (B u).all P.bitB = true by rw [hBu]; exact P.all_take (P.all_drop (P.isBits_iff.1 hb).2 k) d)
        have HU := Lib.hid hBu
        have hn1 : ((k : Int) + (d : Int)).toNat = k + d := by omega
        clear hBu
        go_enter Try.func66, Try.ntmps66
        go_wp2_with (first | (go_at_call 68; refine (c_implIsBits s _ hs).mono ?_; rintro e w' ⟨rfl, rfl⟩) | (go_at_call 141; refine (c_within _ _ _ _).mono ?_; rintro e w' ⟨rfl, rfl⟩) | (go_at_call 166; refine (c_numberOf u _ hul HB.out).mono ?_; rintro e w' ⟨rfl, rfl⟩))
        go_ret2
        exact ⟨ret_ib (by unfold foI; rw [HT.out, HU.out]; rfl) HT.out.symm, rfl⟩
theorem c_specFieldOf (s : ByteArray) (f wd : Int) (w : World) (hs : s.size ≤ maxLen) (wf1 : (Lit.int .i64 wd).wf = true) : Calls Try.prog 67 #[.string s, .int .i64 f, .int .i64 wd] w fun e w' => e = .returned (.tuple #[.int .i64 (foI (B s) f wd), .bool (foOk (B s) f wd)]) ∧ w = w' := by
  have hl := B_len s
  have hs' := hs
  unfold maxLen at hs'
  cases hb : P.isBits (B s) with
  | false =>
    have HF := Lib.hid (show foOk (B s) f wd = false by unfold foOk; rw [hb]; rfl)
    go_enter Try.func67, Try.ntmps67
    go_wp2_with (first | (go_at_call 149; refine (c_l2Good s _ hs).mono ?_; rintro e w' ⟨rfl, rfl⟩))
    go_ret2
    exact ⟨ret_ib (by unfold foI; rw [HF.out]; rfl) HF.out.symm, rfl⟩
  | true =>
    cases hwd : P.inB wd 1 30 with
    | false =>
      have HF := Lib.hid (show foOk (B s) f wd = false by unfold foOk; rw [hb, hwd]; rfl)
      go_enter Try.func67, Try.ntmps67
      go_wp2_with (first | (go_at_call 149; refine (c_l2Good s _ hs).mono ?_; rintro e w' ⟨rfl, rfl⟩) | (go_at_call 145; refine (c_l1In _ _ _ _).mono ?_; rintro e w' ⟨rfl, rfl⟩))
      go_ret2
      exact ⟨ret_ib (by unfold foI; rw [HF.out]; rfl) HF.out.symm, rfl⟩
    | true =>
      obtain ⟨d0, d1⟩ := P.inB_iff.1 hwd
      obtain ⟨d, rfl⟩ : ∃ d : Nat, wd = (d : Int) := ⟨wd.toNat, by omega⟩
      clear wf1
      cases hf : P.inB f 0 ((s.size : Int) - d) with
      | false =>
        have HF := Lib.hid (show foOk (B s) f d = false by unfold foOk; rw [hb, hwd, hl, hf]; rfl)
        go_enter Try.func67, Try.ntmps67
        go_wp2_with (first | (go_at_call 149; refine (c_l2Good s _ hs).mono ?_; rintro e w' ⟨rfl, rfl⟩) | (go_at_call 145; refine (c_l1In _ _ _ _).mono ?_; rintro e w' ⟨rfl, rfl⟩))
        go_ret2
        exact ⟨ret_ib (by unfold foI; rw [HF.out]; rfl) HF.out.symm, rfl⟩
      | true =>
        have HT := Lib.hid (show foOk (B s) f d = true by unfold foOk; rw [hb, hwd, hl, hf]; rfl)
        obtain ⟨f0, f1⟩ := P.inB_iff.1 hf
        obtain ⟨k, rfl⟩ : ∃ k : Nat, f = (k : Int) := ⟨f.toNat, by omega⟩
        have h64 := (P.isBits_iff.1 hb).1
        obtain ⟨u, hu⟩ : ∃ u, s.extract k (k + d) = u := ⟨_, rfl⟩
        have hBu : B u = ((B s).drop k).take d := by rw [← hu, B_ext]; congr 1; omega
        have hul : u.size ≤ 30 := by rw [← B_len, hBu, List.length_take]; omega
        have HB := Lib.hid (show (B u).all P.bitB = true by rw [hBu]; exact P.all_take (P.all_drop (P.isBits_iff.1 hb).2 k) d)
        have HU := Lib.hid hBu
        have hn1 : ((k : Int) + (d : Int)).toNat = k + d := by omega
        clear hBu
        go_enter Try.func67, Try.ntmps67
        go_wp2_with (first | (go_at_call 149; refine (c_l2Good s _ hs).mono ?_; rintro e w' ⟨rfl, rfl⟩) | (go_at_call 145; refine (c_l1In _ _ _ _).mono ?_; rintro e w' ⟨rfl, rfl⟩) | (go_at_call 173; refine (c_l2Number u _ hul HB.out).mono ?_; rintro e w' ⟨rfl, rfl⟩))
        go_ret2
        exact ⟨ret_ib (by unfold foI; rw [HT.out, HU.out]; rfl) HT.out.symm, rfl⟩
end Go.Proofs.Ytfbanjmooknafaa
