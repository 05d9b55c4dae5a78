/-
  Contracts of the exported functions on bit strings.
-/
import Derived.Test.YtdcmegijokamkaaB2
namespace Go.Proofs.Ytdcmegijokamkaa
open Go.RowKit
set_option linter.unusedSimpArgs false
set_option linter.unusedVariables false

/-- results of the functions on bit strings -/
def boOk (n wd : Int) : Bool := P.inB wd 0 30 && P.inB n 0 (2 ^ wd.toNat - 1)
def boL (n wd : Int) : List UInt8 := if boOk n wd = true then P.bitsL n.toNat wd.toNat else []
def noOk (l : List UInt8) : Bool := P.isBits l && decide (l.length ≤ 30)
def noI (l : List UInt8) : Int := if noOk l = true then (P.numL l : Int) else 0
def fbOk (l : List UInt8) (i : Int) : Bool := P.isBits l && P.inB i 0 ((l.length : Int) - 1)
def fbL (l : List UInt8) (i : Int) : List UInt8 := if fbOk l i = true then P.flipL l i.toNat else []
def foOk (l : List UInt8) (f wd : Int) : Bool := P.isBits l && P.inB wd 1 30 && P.inB f 0 ((l.length : Int) - wd)
def foI (l : List UInt8) (f wd : Int) : Int := if foOk l f wd = true then (P.numL ((l.drop f.toNat).take wd.toNat) : Int) else 0
def coI (l : List UInt8) : Int := if P.isBits l = true then (P.onesL l : Int) else 0
def xoOk (a b : List UInt8) : Bool := P.isBits a && P.isBits b && decide (a.length = b.length)
def xoL (a b : List UInt8) : List UInt8 := if xoOk a b = true then P.xorL a b else []

theorem two_le (d : Nat) (h : d ≤ 30) : (2 : Int) ^ d ≤ 1073741824 ∧ 1 ≤ (2 : Int) ^ d := by
  have h1 : (2 : Nat) ^ d ≤ 2 ^ 30 := Nat.pow_le_pow_right (by omega) h
  have h2 : 1 ≤ (2 : Nat) ^ d := Nat.one_le_two_pow
  have h3 : ((2 ^ d : Nat) : Int) = (2 : Int) ^ d := by push_cast; rfl
  omega

theorem c_specIsBits (s : ByteArray) (w : World) (hs : s.size ≤ maxLen) : Calls Try.prog 27 #[.string s] w fun e w' => e = .returned (.bool (P.isBits (B s))) ∧ w = w' := by
  go_enter Try.func27, Try.ntmps27
  go_wp2_with (go_at_call 51; refine (c_l2Good s _ hs).mono ?_; rintro e w' ⟨rfl, rfl⟩)
  go_ret
  exact ⟨rfl, rfl⟩
theorem c_implBitsOf (n wd : Int) (w : World) : Calls Try.prog 30 #[.int .i64 n, .int .i64 wd] w fun e w' => e = .returned (.tuple #[.string (bs (boL n wd)), .bool (boOk n wd)]) ∧ Below w.heap.size w w' := by
  cases hwd : P.inB wd 0 30 with
  | false =>
    have HF := Lib.hid (show boOk n wd = false by unfold boOk; rw [hwd]; rfl)
    go_enter Try.func30, Try.ntmps30
    go_wp2_with (first | (go_at_call 41; refine (c_within _ _ _ _).mono ?_; rintro e w' ⟨rfl, rfl⟩))
    go_ret2
    exact ⟨ret_sb (by unfold boL; rw [HF.out]; rfl) HF.out.symm, Below.refl _ _⟩
  | true =>
    obtain ⟨d0, d1⟩ := P.inB_iff.1 hwd
    obtain ⟨d, rfl⟩ : ∃ d : Nat, wd = (d : Int) := ⟨wd.toNat, by omega⟩
    have hd : d ≤ 30 := by omega
    have h2 := two_le d hd
    obtain ⟨h2a, h2b⟩ := h2
    have hq1 : wrap64 (2 ^ d) = 2 ^ d := by unfold wrap64; omega
    have hq2 : wrap64 (2 ^ d - 1) = 2 ^ d - 1 := by unfold wrap64; omega
    cases hn : P.inB n 0 (wrap64 (wrap64 (2 ^ d) - 1)) with
    | false =>
      have HF := Lib.hid (show boOk n d = false by unfold boOk; rw [hwd, ← hn, hq1, hq2]; rfl)
      clear hq1 hq2 h2a h2b
      go_enter Try.func30, Try.ntmps30
      go_wp2_with (first | (go_at_call 41; refine (c_within _ _ _ _).mono ?_; rintro e w' ⟨rfl, rfl⟩))
      go_ret2
      exact ⟨ret_sb (by unfold boL; rw [HF.out]; rfl) HF.out.symm, Below.refl _ _⟩
    | true =>
      have hn' := hn
      rw [hq1, hq2] at hn'
      have HT := Lib.hid (show boOk n d = true by unfold boOk; rw [hwd, Int.toNat_natCast, hn']; rfl)
      obtain ⟨n0, n1⟩ := P.inB_iff.1 hn'
      obtain ⟨m, rfl⟩ : ∃ m : Nat, n = (m : Int) := ⟨n.toNat, by omega⟩
      have hm : m ≤ 1073741823 := by omega
      clear hq1 hq2 h2a h2b hn' n1
      go_enter Try.func30, Try.ntmps30
      go_wp2_with (first | (go_at_call 41; refine (c_within _ _ _ _).mono ?_; rintro e w' ⟨rfl, rfl⟩) | (go_at_call 53; refine (c_bitsOf m d _ hm (by omega)).mono ?_; rintro e w1 ⟨rfl, hb⟩))
      go_ret2
      exact ⟨ret_sb (by unfold boL; rw [HT.out]; rfl) HT.out.symm, hb⟩
theorem c_specBitsOf (n wd : Int) (w : World) : Calls Try.prog 29 #[.int .i64 n, .int .i64 wd] w fun e w' => e = .returned (.tuple #[.string (bs (boL n wd)), .bool (boOk n wd)]) ∧ Below w.heap.size w w' := by
  cases hwd : P.inB wd 0 30 with
  | false =>
    have HF := Lib.hid (show boOk n wd = false by unfold boOk; rw [hwd]; rfl)
    go_enter Try.func29, Try.ntmps29
    go_wp2_with (first | (go_at_call 39; refine (c_l1In _ _ _ _).mono ?_; rintro e w' ⟨rfl, rfl⟩))
    go_ret2
    exact ⟨ret_sb (by unfold boL; rw [HF.out]; rfl) HF.out.symm, Below.refl _ _⟩
  | true =>
    obtain ⟨d0, d1⟩ := P.inB_iff.1 hwd
    obtain ⟨d, rfl⟩ : ∃ d : Nat, wd = (d : Int) := ⟨wd.toNat, by omega⟩
    have hd : d ≤ 30 := by omega
    have h2 := two_le d hd
    obtain ⟨h2a, h2b⟩ := h2
    have hq1 : wrap64 (2 ^ d) = 2 ^ d := by unfold wrap64; omega
    have hq2 : wrap64 (2 ^ d - 1) = 2 ^ d - 1 := by unfold wrap64; omega
    cases hn : P.inB n 0 (wrap64 (wrap64 (2 ^ d) - 1)) with
    | false =>
      have HF := Lib.hid (show boOk n d = false by unfold boOk; rw [hwd, ← hn, hq1, hq2]; rfl)
      clear hq1 hq2 h2a h2b
      go_enter Try.func29, Try.ntmps29
      go_wp2_with (first | (go_at_call 39; refine (c_l1In _ _ _ _).mono ?_; rintro e w' ⟨rfl, rfl⟩))
      go_ret2
      exact ⟨ret_sb (by unfold boL; rw [HF.out]; rfl) HF.out.symm, Below.refl _ _⟩
    | true =>
      have hn' := hn
      rw [hq1, hq2] at hn'
      have HT := Lib.hid (show boOk n d = true by unfold boOk; rw [hwd, Int.toNat_natCast, hn']; rfl)
      obtain ⟨n0, n1⟩ := P.inB_iff.1 hn'
      obtain ⟨m, rfl⟩ : ∃ m : Nat, n = (m : Int) := ⟨n.toNat, by omega⟩
      have hm : m ≤ 1073741823 := by omega
      clear hq1 hq2 h2a h2b hn' n1
      go_enter Try.func29, Try.ntmps29
      go_wp2_with (first | (go_at_call 39; refine (c_l1In _ _ _ _).mono ?_; rintro e w' ⟨rfl, rfl⟩) | (go_at_call 52; refine (c_l2Of m d _ hm (by omega)).mono ?_; rintro e w1 ⟨rfl, hb⟩))
      go_ret2
      exact ⟨ret_sb (by unfold boL; rw [HT.out]; rfl) HT.out.symm, (hb▸Below.refl _ _)⟩
theorem c_implNumberOf (s : ByteArray) (w : World) (hs : s.size ≤ maxLen) : Calls Try.prog 32 #[.string s] w fun e w' => e = .returned (.tuple #[.int .i64 (noI (B s)), .bool (noOk (B s))]) ∧ w = w' := by
  have hl := B_len s
  have hs' := hs
  unfold maxLen at hs'
  cases hb : P.isBits (B s) with
  | false =>
    have HF := Lib.hid (show noOk (B s) = false by unfold noOk; rw [hb]; rfl)
    go_enter Try.func32, Try.ntmps32
    go_wp2_with (first | (go_at_call 28; refine (c_implIsBits s _ hs).mono ?_; rintro e w' ⟨rfl, rfl⟩))
    go_ret2
    exact ⟨ret_ib (by unfold noI; rw [HF.out]; rfl) HF.out.symm, rfl⟩
  | true =>
    by_cases h30 : s.size ≤ 30
    · have HT := Lib.hid (show noOk (B s) = true by unfold noOk; rw [hb, decide_eq_true (by omega)]; rfl)
      have HB := Lib.hid (P.isBits_iff.1 hb).2
      go_enter Try.func32, Try.ntmps32
      go_wp2_with (first | (go_at_call 28; refine (c_implIsBits s _ hs).mono ?_; rintro e w' ⟨rfl, rfl⟩) | (go_at_call 55; refine (c_numberOf s _ h30 HB.out).mono ?_; rintro e w' ⟨rfl, rfl⟩))
      go_ret2
      exact ⟨ret_ib (by unfold noI; rw [HT.out]; rfl) HT.out.symm, rfl⟩
    · have HF := Lib.hid (show noOk (B s) = false by unfold noOk; rw [hb, decide_eq_false (by omega)]; rfl)
      go_enter Try.func32, Try.ntmps32
      go_wp2_with (first | (go_at_call 28; refine (c_implIsBits s _ hs).mono ?_; rintro e w' ⟨rfl, rfl⟩))
      go_ret2
      exact ⟨ret_ib (by unfold noI; rw [HF.out]; rfl) HF.out.symm, rfl⟩
theorem c_specNumberOf (s : ByteArray) (w : World) (hs : s.size ≤ maxLen) : Calls Try.prog 31 #[.string s] w fun e w' => e = .returned (.tuple #[.int .i64 (noI (B s)), .bool (noOk (B s))]) ∧ w = w' := by
  have hl := B_len s
  have hs' := hs
  unfold maxLen at hs'
  cases hb : P.isBits (B s) with
  | false =>
    have HF := Lib.hid (show noOk (B s) = false by unfold noOk; rw [hb]; rfl)
    go_enter Try.func31, Try.ntmps31
    go_wp2_with (first | (go_at_call 51; refine (c_l2Good s _ hs).mono ?_; rintro e w' ⟨rfl, rfl⟩))
    go_ret2
    exact ⟨ret_ib (by unfold noI; rw [HF.out]; rfl) HF.out.symm, rfl⟩
  | true =>
    by_cases h30 : s.size ≤ 30
    · have HT := Lib.hid (show noOk (B s) = true by unfold noOk; rw [hb, decide_eq_true (by omega)]; rfl)
      have HB := Lib.hid (P.isBits_iff.1 hb).2
      go_enter Try.func31, Try.ntmps31
      go_wp2_with (first | (go_at_call 51; refine (c_l2Good s _ hs).mono ?_; rintro e w' ⟨rfl, rfl⟩) | (go_at_call 54; refine (c_l2Number s _ h30 HB.out).mono ?_; rintro e w' ⟨rfl, rfl⟩))
      go_ret2
      exact ⟨ret_ib (by unfold noI; rw [HT.out]; rfl) HT.out.symm, rfl⟩
    · have HF := Lib.hid (show noOk (B s) = false by unfold noOk; rw [hb, decide_eq_false (by omega)]; rfl)
      go_enter Try.func31, Try.ntmps31
      go_wp2_with (first | (go_at_call 51; refine (c_l2Good s _ hs).mono ?_; rintro e w' ⟨rfl, rfl⟩))
      go_ret2
      exact ⟨ret_ib (by unfold noI; rw [HF.out]; rfl) HF.out.symm, rfl⟩
theorem c_implCountOnes (s : ByteArray) (w : World) (hs : s.size ≤ maxLen) : Calls Try.prog 38 #[.string s] w fun e w' => e = .returned (.tuple #[.int .i64 (coI (B s)), .bool (P.isBits (B s))]) ∧ w = w' := by
  have hl := B_len s
  cases hb : P.isBits (B s) with
  | false =>
    have HF := Lib.hid hb
    go_enter Try.func38, Try.ntmps38
    go_wp2_with (first | (go_at_call 28; refine (c_implIsBits s _ hs).mono ?_; rintro e w' ⟨rfl, rfl⟩))
    go_ret2
    exact ⟨ret_ib (by unfold coI; rw [HF.out]; rfl) rfl, rfl⟩
  | true =>
    have HT := Lib.hid hb
    have h64 := (P.isBits_iff.1 hb).1
    go_enter Try.func38, Try.ntmps38
    go_wp2_with (first | (go_at_call 28; refine (c_implIsBits s _ hs).mono ?_; rintro e w' ⟨rfl, rfl⟩) | (go_at_call 59; refine (c_ones s _ (by omega)).mono ?_; rintro e w' ⟨rfl, rfl⟩))
    go_ret2
    exact ⟨ret_ib (by unfold coI; rw [HT.out]; rfl) rfl, rfl⟩
theorem c_specCountOnes (s : ByteArray) (w : World) (hs : s.size ≤ maxLen) : Calls Try.prog 37 #[.string s] w fun e w' => e = .returned (.tuple #[.int .i64 (coI (B s)), .bool (P.isBits (B s))]) ∧ w = w' := by
  have hl := B_len s
  cases hb : P.isBits (B s) with
  | false =>
    have HF := Lib.hid hb
    go_enter Try.func37, Try.ntmps37
    go_wp2_with (first | (go_at_call 51; refine (c_l2Good s _ hs).mono ?_; rintro e w' ⟨rfl, rfl⟩))
    go_ret2
    exact ⟨ret_ib (by unfold coI; rw [HF.out]; rfl) rfl, rfl⟩
  | true =>
    have HT := Lib.hid hb
    have h64 := (P.isBits_iff.1 hb).1
    go_enter Try.func37, Try.ntmps37
    go_wp2_with (first | (go_at_call 51; refine (c_l2Good s _ hs).mono ?_; rintro e w' ⟨rfl, rfl⟩) | (go_at_call 58; refine (c_l2Ones s _ (by omega)).mono ?_; rintro e w' ⟨rfl, rfl⟩))
    go_ret2
    exact ⟨ret_ib (by unfold coI; rw [HT.out]; rfl) rfl, rfl⟩
theorem c_implFlipBit (s : ByteArray) (i : Int) (w : World) (hs : s.size ≤ maxLen) : Calls Try.prog 34 #[.string s, .int .i64 i] w fun e w' => e = .returned (.tuple #[.string (bs (fbL (B s) i)), .bool (fbOk (B s) i)]) ∧ Below w.heap.size w w' := by
  have hl := B_len s
  have hs' := hs
  unfold maxLen at hs'
  cases hb : P.isBits (B s) with
  | false =>
    have HF := Lib.hid (show fbOk (B s) i = false by unfold fbOk; rw [hb]; rfl)
    go_enter Try.func34, Try.ntmps34
    go_wp2_with (first | (go_at_call 28; refine (c_implIsBits s _ hs).mono ?_; rintro e w' ⟨rfl, rfl⟩))
    go_ret2
    exact ⟨ret_sb (by unfold fbL; rw [HF.out]; rfl) HF.out.symm, Below.refl _ _⟩
  | true =>
    cases hi : P.inB i 0 ((s.size : Int) - 1) with
    | false =>
      have HF := Lib.hid (show fbOk (B s) i = false by unfold fbOk; rw [hb, hl, hi]; rfl)
      go_enter Try.func34, Try.ntmps34
      go_wp2_with (first | (go_at_call 28; refine (c_implIsBits s _ hs).mono ?_; rintro e w' ⟨rfl, rfl⟩) | (go_at_call 41; refine (c_within _ _ _ _).mono ?_; rintro e w' ⟨rfl, rfl⟩))
      go_ret2
      exact ⟨ret_sb (by unfold fbL; rw [HF.out]; rfl) HF.out.symm, Below.refl _ _⟩
    | true =>
      have HT := Lib.hid (show fbOk (B s) i = true by unfold fbOk; rw [hb, hl, hi]; rfl)
      obtain ⟨i0, i1⟩ := P.inB_iff.1 hi
      obtain ⟨k, rfl⟩ : ∃ k : Nat, i = (k : Int) := ⟨i.toNat, by omega⟩
      have HB := Lib.hid (P.isBits_iff.1 hb).2
      have h64 := (P.isBits_iff.1 hb).1
      go_enter Try.func34, Try.ntmps34
      go_wp2_with (first | (go_at_call 28; refine (c_implIsBits s _ hs).mono ?_; rintro e w' ⟨rfl, rfl⟩) | (go_at_call 41; refine (c_within _ _ _ _).mono ?_; rintro e w' ⟨rfl, rfl⟩) | (go_at_call 57; refine (c_flip s k _ (by omega) (by omega) HB.out).mono ?_; rintro e w1 ⟨rfl, hbl⟩))
      go_ret2
      exact ⟨ret_sb (by unfold fbL; rw [HT.out]; rfl) HT.out.symm, hbl⟩
theorem c_specFlipBit (s : ByteArray) (i : Int) (w : World) (hs : s.size ≤ maxLen) : Calls Try.prog 33 #[.string s, .int .i64 i] w fun e w' => e = .returned (.tuple #[.string (bs (fbL (B s) i)), .bool (fbOk (B s) i)]) ∧ Below w.heap.size w w' := by
  have hl := B_len s
  have hs' := hs
  unfold maxLen at hs'
  cases hb : P.isBits (B s) with
  | false =>
    have HF := Lib.hid (show fbOk (B s) i = false by unfold fbOk; rw [hb]; rfl)
    go_enter Try.func33, Try.ntmps33
    go_wp2_with (first | (go_at_call 51; refine (c_l2Good s _ hs).mono ?_; rintro e w' ⟨rfl, rfl⟩))
    go_ret2
    exact ⟨ret_sb (by unfold fbL; rw [HF.out]; rfl) HF.out.symm, Below.refl _ _⟩
  | true =>
    cases hi : P.inB i 0 ((s.size : Int) - 1) with
    | false =>
      have HF := Lib.hid (show fbOk (B s) i = false by unfold fbOk; rw [hb, hl, hi]; rfl)
      go_enter Try.func33, Try.ntmps33
      go_wp2_with (first | (go_at_call 51; refine (c_l2Good s _ hs).mono ?_; rintro e w' ⟨rfl, rfl⟩) | (go_at_call 39; refine (c_l1In _ _ _ _).mono ?_; rintro e w' ⟨rfl, rfl⟩))
      go_ret2
      exact ⟨ret_sb (by unfold fbL; rw [HF.out]; rfl) HF.out.symm, Below.refl _ _⟩
    | true =>
      have HT := Lib.hid (show fbOk (B s) i = true by unfold fbOk; rw [hb, hl, hi]; rfl)
      obtain ⟨i0, i1⟩ := P.inB_iff.1 hi
      obtain ⟨k, rfl⟩ : ∃ k : Nat, i = (k : Int) := ⟨i.toNat, by omega⟩
      have HB := Lib.hid (P.isBits_iff.1 hb).2
      have h64 := (P.isBits_iff.1 hb).1
      go_enter Try.func33, Try.ntmps33
      go_wp2_with (first | (go_at_call 51; refine (c_l2Good s _ hs).mono ?_; rintro e w' ⟨rfl, rfl⟩) | (go_at_call 39; refine (c_l1In _ _ _ _).mono ?_; rintro e w' ⟨rfl, rfl⟩) | (go_at_call 56; refine (c_l2Flip s k _ (by omega) (by omega) HB.out).mono ?_; rintro e w1 ⟨rfl, hbl⟩))
      go_ret2
      exact ⟨ret_sb (by unfold fbL; rw [HT.out]; rfl) HT.out.symm, hbl.below _⟩
theorem c_implFieldOf (s : ByteArray) (f wd : Int) (w : World) (hs : s.size ≤ maxLen) (wf1 : (Lit.int .i64 wd).wf = true) : Calls Try.prog 36 #[.string s, .int .i64 f, .int .i64 wd] w fun e w' => e = .returned (.tuple #[.int .i64 (foI (B s) f wd), .bool (foOk (B s) f wd)]) ∧ w = w' := by
  have hl := B_len s
  have hs' := hs
  unfold maxLen at hs'
  cases hb : P.isBits (B s) with
  | false =>
    have HF := Lib.hid (show foOk (B s) f wd = false by unfold foOk; rw [hb]; rfl)
    go_enter Try.func36, Try.ntmps36
    go_wp2_with (first | (go_at_call 28; refine (c_implIsBits s _ hs).mono ?_; rintro e w' ⟨rfl, rfl⟩))
    go_ret2
    exact ⟨ret_ib (by unfold foI; rw [HF.out]; rfl) HF.out.symm, rfl⟩
  | true =>
    cases hwd : P.inB wd 1 30 with
    | false =>
      have HF := Lib.hid (show foOk (B s) f wd = false by unfold foOk; rw [hb, hwd]; rfl)
      go_enter Try.func36, Try.ntmps36
      go_wp2_with (first | (go_at_call 28; refine (c_implIsBits s _ hs).mono ?_; rintro e w' ⟨rfl, rfl⟩) | (go_at_call 41; refine (c_within _ _ _ _).mono ?_; rintro e w' ⟨rfl, rfl⟩))
      go_ret2
      exact ⟨ret_ib (by unfold foI; rw [HF.out]; rfl) HF.out.symm, rfl⟩
    | true =>
      obtain ⟨d0, d1⟩ := P.inB_iff.1 hwd
      obtain ⟨d, rfl⟩ : ∃ d : Nat, wd = (d : Int) := ⟨wd.toNat, by omega⟩
      clear wf1
      cases hf : P.inB f 0 ((s.size : Int) - d) with
      | false =>
        have HF := Lib.hid (show foOk (B s) f d = false by unfold foOk; rw [hb, hwd, hl, hf]; rfl)
        go_enter Try.func36, Try.ntmps36
        go_wp2_with (first | (go_at_call 28; refine (c_implIsBits s _ hs).mono ?_; rintro e w' ⟨rfl, rfl⟩) | (go_at_call 41; refine (c_within _ _ _ _).mono ?_; rintro e w' ⟨rfl, rfl⟩))
        go_ret2
        exact ⟨ret_ib (by unfold foI; rw [HF.out]; rfl) HF.out.symm, rfl⟩
      | true =>
        have HT := Lib.hid (show foOk (B s) f d = true by unfold foOk; rw [hb, hwd, hl, hf]; rfl)
        obtain ⟨f0, f1⟩ := P.inB_iff.1 hf
        obtain ⟨k, rfl⟩ : ∃ k : Nat, f = (k : Int) := ⟨f.toNat, by omega⟩
        have h64 := (P.isBits_iff.1 hb).1
        obtain ⟨u, hu⟩ : ∃ u, s.extract k (k + d) = u := ⟨_, rfl⟩
        have hBu : B u = ((B s).drop k).take d := by rw [← hu, B_ext]; congr 1; omega
        have hul : u.size ≤ 30 := by rw [← B_len, hBu, List.length_take]; omega
        have HB := Lib.hid (show (B u).all P.bitB = true by rw [hBu]; exact P.all_take (P.all_drop (P.isBits_iff.1 hb).2 k) d)
        have HU := Lib.hid hBu
        have hn1 : ((k : Int) + (d : Int)).toNat = k + d := by omega
        clear hBu
        go_enter Try.func36, Try.ntmps36
        go_wp2_with (first | (go_at_call 28; refine (c_implIsBits s _ hs).mono ?_; rintro e w' ⟨rfl, rfl⟩) | (go_at_call 41; refine (c_within _ _ _ _).mono ?_; rintro e w' ⟨rfl, rfl⟩) | (go_at_call 55; refine (c_numberOf u _ hul HB.out).mono ?_; rintro e w' ⟨rfl, rfl⟩))
        go_ret2
        exact ⟨ret_ib (by unfold foI; rw [HT.out, HU.out]; rfl) HT.out.symm, rfl⟩
theorem c_specFieldOf (s : ByteArray) (f wd : Int) (w : World) (hs : s.size ≤ maxLen) (wf1 : (Lit.int .i64 wd).wf = true) : Calls Try.prog 35 #[.string s, .int .i64 f, .int .i64 wd] w fun e w' => e = .returned (.tuple #[.int .i64 (foI (B s) f wd), .bool (foOk (B s) f wd)]) ∧ w = w' := by
  have hl := B_len s
  have hs' := hs
  unfold maxLen at hs'
  cases hb : P.isBits (B s) with
  | false =>
    have HF := Lib.hid (show foOk (B s) f wd = false by unfold foOk; rw [hb]; rfl)
    go_enter Try.func35, Try.ntmps35
    go_wp2_with (first | (go_at_call 51; refine (c_l2Good s _ hs).mono ?_; rintro e w' ⟨rfl, rfl⟩))
    go_ret2
    exact ⟨ret_ib (by unfold foI; rw [HF.out]; rfl) HF.out.symm, rfl⟩
  | true =>
    cases hwd : P.inB wd 1 30 with
    | false =>
      have HF := Lib.hid (show foOk (B s) f wd = false by unfold foOk; rw [hb, hwd]; rfl)
      go_enter Try.func35, Try.ntmps35
      go_wp2_with (first | (go_at_call 51; refine (c_l2Good s _ hs).mono ?_; rintro e w' ⟨rfl, rfl⟩) | (go_at_call 39; refine (c_l1In _ _ _ _).mono ?_; rintro e w' ⟨rfl, rfl⟩))
      go_ret2
      exact ⟨ret_ib (by unfold foI; rw [HF.out]; rfl) HF.out.symm, rfl⟩
    | true =>
      obtain ⟨d0, d1⟩ := P.inB_iff.1 hwd
      obtain ⟨d, rfl⟩ : ∃ d : Nat, wd = (d : Int) := ⟨wd.toNat, by omega⟩
      clear wf1
      cases hf : P.inB f 0 ((s.size : Int) - d) with
      | false =>
        have HF := Lib.hid (show foOk (B s) f d = false by unfold foOk; rw [hb, hwd, hl, hf]; rfl)
        go_enter Try.func35, Try.ntmps35
        go_wp2_with (first | (go_at_call 51; refine (c_l2Good s _ hs).mono ?_; rintro e w' ⟨rfl, rfl⟩) | (go_at_call 39; refine (c_l1In _ _ _ _).mono ?_; rintro e w' ⟨rfl, rfl⟩))
        go_ret2
        exact ⟨ret_ib (by unfold foI; rw [HF.out]; rfl) HF.out.symm, rfl⟩
      | true =>
        have HT := Lib.hid (show foOk (B s) f d = true by unfold foOk; rw [hb, hwd, hl, hf]; rfl)
        obtain ⟨f0, f1⟩ := P.inB_iff.1 hf
        obtain ⟨k, rfl⟩ : ∃ k : Nat, f = (k : Int) := ⟨f.toNat, by omega⟩
        have h64 := (P.isBits_iff.1 hb).1
        obtain ⟨u, hu⟩ : ∃ u, s.extract k (k + d) = u := ⟨_, rfl⟩
        have hBu : B u = ((B s).drop k).take d := by rw [← hu, B_ext]; congr 1; omega
        have hul : u.size ≤ 30 := by rw [← B_len, hBu, List.length_take]; omega
        have HB := Lib.hid (show (B u).all P.bitB = true by rw [hBu]; exact P.all_take (P.all_drop (P.isBits_iff.1 hb).2 k) d)
        have HU := Lib.hid hBu
        have hn1 : ((k : Int) + (d : Int)).toNat = k + d := by omega
        clear hBu
        go_enter Try.func35, Try.ntmps35
        go_wp2_with (first | (go_at_call 51; refine (c_l2Good s _ hs).mono ?_; rintro e w' ⟨rfl, rfl⟩) | (go_at_call 39; refine (c_l1In _ _ _ _).mono ?_; rintro e w' ⟨rfl, rfl⟩) | (go_at_call 54; refine (c_l2Number u _ hul HB.out).mono ?_; rintro e w' ⟨rfl, rfl⟩))
        go_ret2
        exact ⟨ret_ib (by unfold foI; rw [HT.out, HU.out]; rfl) HT.out.symm, rfl⟩
theorem l_FnExactIsBits (s : ByteArray) (hs : s.size ≤ maxLen) (w : World) : Calls Try.prog 9 #[.string s] w fun e w' => e = .returned (.bool true) ∧ Below w.heap.size w w' := by
  have hs' := hs
  unfold maxLen at hs'
  by_cases h : s.size ≤ 1048576
  · go_enter Try.func9, Try.ntmps9
    go_wp2_with (first | (go_at_call 27; refine (c_specIsBits s _ hs).mono ?_; rintro e w1 ⟨rfl, rfl⟩) | (go_at_call 28; refine (c_implIsBits s _ hs).mono ?_; rintro e w2 ⟨rfl, rfl⟩))
    go_ret
    exact ⟨rfl, Below.refl _ _⟩
  · go_enter Try.func9, Try.ntmps9
    go_wp2
    go_ret
    exact ⟨rfl, Below.refl _ _⟩
theorem l_FnExactNumberOf (s : ByteArray) (hs : s.size ≤ maxLen) (w : World) : Calls Try.prog 11 #[.string s] w fun e w' => e = .returned (.bool true) ∧ Below w.heap.size w w' := by
  have hs' := hs
  unfold maxLen at hs'
  by_cases h : s.size ≤ 1048576
  · go_enter Try.func11, Try.ntmps11
    go_wp2_with (first | (go_at_call 31; refine (c_specNumberOf s _ hs).mono ?_; rintro e w1 ⟨rfl, rfl⟩) | (go_at_call 32; refine (c_implNumberOf s _ hs).mono ?_; rintro e w2 ⟨rfl, rfl⟩))
    go_ret
    exact ⟨rfl, Below.refl _ _⟩
  · go_enter Try.func11, Try.ntmps11
    go_wp2
    go_ret
    exact ⟨rfl, Below.refl _ _⟩
theorem l_FnExactCountOnes (s : ByteArray) (hs : s.size ≤ maxLen) (w : World) : Calls Try.prog 14 #[.string s] w fun e w' => e = .returned (.bool true) ∧ Below w.heap.size w w' := by
  have hs' := hs
  unfold maxLen at hs'
  by_cases h : s.size ≤ 1048576
  · go_enter Try.func14, Try.ntmps14
    go_wp2_with (first | (go_at_call 37; refine (c_specCountOnes s _ hs).mono ?_; rintro e w1 ⟨rfl, rfl⟩) | (go_at_call 38; refine (c_implCountOnes s _ hs).mono ?_; rintro e w2 ⟨rfl, rfl⟩))
    go_ret
    exact ⟨rfl, Below.refl _ _⟩
  · go_enter Try.func14, Try.ntmps14
    go_wp2
    go_ret
    exact ⟨rfl, Below.refl _ _⟩
theorem l_FnExactBitsOf (n wd : Int) (w : World) (wn : (Lit.int .i64 n).wf = true) (ww : (Lit.int .i64 wd).wf = true) : Calls Try.prog 10 #[.int .i64 n, .int .i64 wd] w fun e w' => e = .returned (.bool true) ∧ Below w.heap.size w w' := by
  clear wn ww
  go_enter Try.func10, Try.ntmps10
  go_wp2_with (first | (go_at_call 29; refine (c_specBitsOf n wd _).mono ?_; rintro e w1 ⟨rfl, hb1⟩) | (go_at_call 30; refine (c_implBitsOf n wd _).mono ?_; rintro e w2 ⟨rfl, hb2⟩))
  go_ret
  exact ⟨rfl, hb1.trans (hb2.mono hb1.size)⟩
theorem l_FnExactFlipBit (s : ByteArray) (i : Int) (w : World) (hs : s.size ≤ maxLen) (wi : (Lit.int .i64 i).wf = true) : Calls Try.prog 12 #[.string s, .int .i64 i] w fun e w' => e = .returned (.bool true) ∧ Below w.heap.size w w' := by
  clear wi
  have hs' := hs
  unfold maxLen at hs'
  by_cases h : s.size ≤ 1048576
  · go_enter Try.func12, Try.ntmps12
    go_wp2_with (first | (go_at_call 33; refine (c_specFlipBit s i _ hs).mono ?_; rintro e w1 ⟨rfl, hb1⟩) | (go_at_call 34; refine (c_implFlipBit s i _ hs).mono ?_; rintro e w2 ⟨rfl, hb2⟩))
    go_ret
    exact ⟨rfl, hb1.trans (hb2.mono hb1.size)⟩
  · go_enter Try.func12, Try.ntmps12
    go_wp2
    go_ret
    exact ⟨rfl, Below.refl _ _⟩
theorem l_FnExactFieldOf (s : ByteArray) (f wd : Int) (w : World) (hs : s.size ≤ maxLen) (w1 : (Lit.int .i64 f).wf = true) (w2 : (Lit.int .i64 wd).wf = true) : Calls Try.prog 13 #[.string s, .int .i64 f, .int .i64 wd] w fun e w' => e = .returned (.bool true) ∧ Below w.heap.size w w' := by
  have hs' := hs
  unfold maxLen at hs'
  have HW := Lib.hid w2
  clear w1 w2
  by_cases h : s.size ≤ 1048576
  · go_enter Try.func13, Try.ntmps13
    go_wp2_with (first | (go_at_call 35; refine (c_specFieldOf s f wd _ hs HW.out).mono ?_; rintro e w1 ⟨rfl, rfl⟩) | (go_at_call 36; refine (c_implFieldOf s f wd _ hs HW.out).mono ?_; rintro e w2 ⟨rfl, rfl⟩))
    go_ret
    exact ⟨rfl, Below.refl _ _⟩
  · go_enter Try.func13, Try.ntmps13
    go_wp2
    go_ret
    exact ⟨rfl, Below.refl _ _⟩
end Go.Proofs.Ytdcmegijokamkaa
