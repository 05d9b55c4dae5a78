/-
  Contracts of the functions that put names together, and the walks of the laws on names.
-/
import Derived.Test.YtcgbimdlackpeaaNP
namespace Go.Proofs.Ytcgbimdlackpeaa
open Go.RowKit
set_option linter.unusedSimpArgs false
set_option linter.unusedVariables false
set_option maxRecDepth 100000

/-- the name of two numbers -/
def jnOk (a b : Int) : Bool := P.inB a 0 16777215 && P.inB b 0 16777215
def jnB (a b : Int) : List UInt8 := if jnOk a b = true then P.bitsL a.toNat 24 ++ P.bitsL b.toNat 24 else []
theorem pbOk_nil : pbOk [] = false := rfl
theorem pbS_nil : pbS [] = [] := rfl
theorem c_implJoinNameParts (a b : Int) (w : World) : Calls Try.prog 32 #[.int .i64 a, .int .i64 b] w fun e w' => e = .returned (.tuple #[.string (bs (pbS (jnB a b))), .bool (pbOk (jnB a b))]) ∧ Below w.heap.size w w' := by
  cases ha : P.inB a 0 16777215 with
  | false =>
    have HF := Lib.hid (show jnB a b = [] by unfold jnB jnOk; rw [ha]; rfl)
    go_enter Try.func32, Try.ntmps32
    go_wp2_with (go_at_call 54; refine (c_within _ _ _ _).mono ?_; rintro e w' ⟨rfl, rfl⟩)
    go_ret2
    exact ⟨ret_sb (by rw [HF.out]; rfl) (by rw [HF.out]; rfl), Below.refl _ _⟩
  | true =>
    cases hb : P.inB b 0 16777215 with
    | false =>
      have HF := Lib.hid (show jnB a b = [] by unfold jnB jnOk; rw [ha, hb]; rfl)
      go_enter Try.func32, Try.ntmps32
      go_wp2_with (go_at_call 54; refine (c_within _ _ _ _).mono ?_; rintro e w' ⟨rfl, rfl⟩)
      go_ret2
      exact ⟨ret_sb (by rw [HF.out]; rfl) (by rw [HF.out]; rfl), Below.refl _ _⟩
    | true =>
      have HT := Lib.hid (show jnB a b = P.bitsL a.toNat 24 ++ P.bitsL b.toNat 24 by unfold jnB jnOk; rw [ha, hb]; rfl)
      obtain ⟨a0, a1⟩ := P.inB_iff.1 ha
      obtain ⟨b0, b1⟩ := P.inB_iff.1 hb
      obtain ⟨x, rfl⟩ : ∃ x : Nat, a = (x : Int) := ⟨a.toNat, by omega⟩
      obtain ⟨y, rfl⟩ : ∃ y : Nat, b = (y : Int) := ⟨b.toNat, by omega⟩
      obtain ⟨z, hz⟩ : ∃ z, bs (P.bitsL x 24 ++ P.bitsL y 24) = z := ⟨_, rfl⟩
      have hadd : ∀ W, (Op.stringOp .add (bs (P.bitsL x 24)) (bs (P.bitsL y 24))).run Try.prog W = .ok (.string z) W := fun W => by
        rw [← hz]; exact run_add W _ _ (by rw [P.bitsL_len, P.bitsL_len]; omega)
      have HZ := Lib.hid (show jnB x y = B z by rw [HT.out, ← hz]; rfl)
      have hzs : z.size ≤ maxLen := by rw [← B_len, ← HZ.out, HT.out, List.length_append, P.bitsL_len, P.bitsL_len]; unfold maxLen; omega
      have hx : x ≤ 1073741823 := by omega
      have hy : y ≤ 1073741823 := by omega
      clear hz
      go_enter Try.func32, Try.ntmps32
      go_wp2_with (first | (go_at_call 54; refine (c_within _ _ _ _).mono ?_; rintro e w' ⟨rfl, rfl⟩) | (go_at_call 50; refine (c_bitsOf _ 24 _ (by first | exact hx | exact hy) (by omega)).mono ?_; rintro e wq ⟨rfl, hq⟩; first | (have hb2 := hb1.trans (hq.mono hb1.size); clear hq) | (have hb1 := hq; clear hq)) | (go_at_call 30; refine (c_implParseNameBits z _ hzs).mono ?_; rintro e w3 ⟨rfl, hb3⟩))
      go_ret2
      exact ⟨ret_sb (by rw [HZ.out]) (by rw [HZ.out]), (hb2.trans (hb3.mono hb2.size))⟩
theorem c_specJoinNameParts (a b : Int) (w : World) : Calls Try.prog 31 #[.int .i64 a, .int .i64 b] w fun e w' => e = .returned (.tuple #[.string (bs (pbS (jnB a b))), .bool (pbOk (jnB a b))]) ∧ Below w.heap.size w w' := by
  cases ha : P.inB a 0 16777215 with
  | false =>
    have HF := Lib.hid (show jnB a b = [] by unfold jnB jnOk; rw [ha]; rfl)
    go_enter Try.func31, Try.ntmps31
    go_wp2_with (go_at_call 58; refine (c_l1In _ _ _ _).mono ?_; rintro e w' ⟨rfl, rfl⟩)
    go_ret2
    exact ⟨ret_sb (by rw [HF.out]; rfl) (by rw [HF.out]; rfl), Below.refl _ _⟩
  | true =>
    cases hb : P.inB b 0 16777215 with
    | false =>
      have HF := Lib.hid (show jnB a b = [] by unfold jnB jnOk; rw [ha, hb]; rfl)
      go_enter Try.func31, Try.ntmps31
      go_wp2_with (go_at_call 58; refine (c_l1In _ _ _ _).mono ?_; rintro e w' ⟨rfl, rfl⟩)
      go_ret2
      exact ⟨ret_sb (by rw [HF.out]; rfl) (by rw [HF.out]; rfl), Below.refl _ _⟩
    | true =>
      have HT := Lib.hid (show jnB a b = P.bitsL a.toNat 24 ++ P.bitsL b.toNat 24 by unfold jnB jnOk; rw [ha, hb]; rfl)
      obtain ⟨a0, a1⟩ := P.inB_iff.1 ha
      obtain ⟨b0, b1⟩ := P.inB_iff.1 hb
      obtain ⟨x, rfl⟩ : ∃ x : Nat, a = (x : Int) := ⟨a.toNat, by omega⟩
      obtain ⟨y, rfl⟩ : ∃ y : Nat, b = (y : Int) := ⟨b.toNat, by omega⟩
      obtain ⟨z, hz⟩ : ∃ z, bs (P.bitsL x 24 ++ P.bitsL y 24) = z := ⟨_, rfl⟩
      have hadd : ∀ W, (Op.stringOp .add (bs (P.bitsL x 24)) (bs (P.bitsL y 24))).run Try.prog W = .ok (.string z) W := fun W => by
        rw [← hz]; exact run_add W _ _ (by rw [P.bitsL_len, P.bitsL_len]; omega)
      have HZ := Lib.hid (show jnB x y = B z by rw [HT.out, ← hz]; rfl)
      have hzs : z.size ≤ maxLen := by rw [← B_len, ← HZ.out, HT.out, List.length_append, P.bitsL_len, P.bitsL_len]; unfold maxLen; omega
      have hx : x ≤ 1073741823 := by omega
      have hy : y ≤ 1073741823 := by omega
      clear hz
      go_enter Try.func31, Try.ntmps31
      go_wp2_with (first | (go_at_call 58; refine (c_l1In _ _ _ _).mono ?_; rintro e w' ⟨rfl, rfl⟩) | (go_at_call 67; refine (c_l2Of _ 24 _ (by first | exact hx | exact hy) (by omega)).mono ?_; rintro e wq ⟨rfl, rfl⟩) | (go_at_call 29; refine (c_specParseNameBits z _ hzs).mono ?_; rintro e w3 ⟨rfl, hb3⟩))
      go_ret2
      exact ⟨ret_sb (by rw [HZ.out]) (by rw [HZ.out]), hb3⟩
theorem l_FnExactIsFlightName (s : ByteArray) (hs : s.size ≤ maxLen) (w : World) : Calls Try.prog 6 #[.string s] w fun e w' => e = .returned (.bool true) ∧ Below w.heap.size w w' := by
  have hs' := hs
  unfold maxLen at hs'
  by_cases h : s.size ≤ 1048576
  · go_enter Try.func6, Try.ntmps6
    go_wp2_with (first | (go_at_call 21; refine (c_specIsFlightName s _ hs).mono ?_; rintro e w1 ⟨rfl, rfl⟩) | (go_at_call 22; refine (c_implIsFlightName s _ hs).mono ?_; rintro e w2 ⟨rfl, rfl⟩))
    go_ret
    first | exact ⟨rfl, Below.refl _ _⟩ | exact ⟨rfl, hb1.trans (hb2.mono hb1.size)⟩
  · go_enter Try.func6, Try.ntmps6
    go_wp2
    go_ret
    exact ⟨rfl, Below.refl _ _⟩
theorem l_FnExactNameBits (s : ByteArray) (hs : s.size ≤ maxLen) (w : World) : Calls Try.prog 8 #[.string s] w fun e w' => e = .returned (.bool true) ∧ Below w.heap.size w w' := by
  have hs' := hs
  unfold maxLen at hs'
  by_cases h : s.size ≤ 1048576
  · go_enter Try.func8, Try.ntmps8
    go_wp2_with (first | (go_at_call 25; refine (c_specNameBits s _ hs).mono ?_; rintro e w1 ⟨rfl, hb1⟩) | (go_at_call 26; refine (c_implNameBits s _ hs).mono ?_; rintro e w2 ⟨rfl, hb2⟩))
    go_ret
    first | exact ⟨rfl, Below.refl _ _⟩ | exact ⟨rfl, hb1.trans (hb2.mono hb1.size)⟩
  · go_enter Try.func8, Try.ntmps8
    go_wp2
    go_ret
    exact ⟨rfl, Below.refl _ _⟩
theorem l_FnExactParseNameBits (s : ByteArray) (hs : s.size ≤ maxLen) (w : World) : Calls Try.prog 10 #[.string s] w fun e w' => e = .returned (.bool true) ∧ Below w.heap.size w w' := by
  have hs' := hs
  unfold maxLen at hs'
  by_cases h : s.size ≤ 1048576
  · go_enter Try.func10, Try.ntmps10
    go_wp2_with (first | (go_at_call 29; refine (c_specParseNameBits s _ hs).mono ?_; rintro e w1 ⟨rfl, hb1⟩) | (go_at_call 30; refine (c_implParseNameBits s _ hs).mono ?_; rintro e w2 ⟨rfl, hb2⟩))
    go_ret
    first | exact ⟨rfl, Below.refl _ _⟩ | exact ⟨rfl, hb1.trans (hb2.mono hb1.size)⟩
  · go_enter Try.func10, Try.ntmps10
    go_wp2
    go_ret
    exact ⟨rfl, Below.refl _ _⟩
theorem l_FnExactNamePart (s : ByteArray) (i : Int) (w : World) (hs : s.size ≤ maxLen) (wi : (Lit.int .i64 i).wf = true) : Calls Try.prog 9 #[.string s, .int .i64 i] w fun e w' => e = .returned (.bool true) ∧ Below w.heap.size w w' := by
  clear wi
  have hs' := hs
  unfold maxLen at hs'
  by_cases h : s.size ≤ 1048576
  · go_enter Try.func9, Try.ntmps9
    go_wp2_with (first | (go_at_call 27; refine (c_specNamePart s i _ hs).mono ?_; rintro e w1 ⟨rfl, hb1⟩) | (go_at_call 28; refine (c_implNamePart s i _ hs).mono ?_; rintro e w2 ⟨rfl, hb2⟩))
    go_ret
    exact ⟨rfl, hb1.trans (hb2.mono hb1.size)⟩
  · go_enter Try.func9, Try.ntmps9
    go_wp2
    go_ret
    exact ⟨rfl, Below.refl _ _⟩
theorem l_FnExactJoinNameParts (a b : Int) (w : World) (wa : (Lit.int .i64 a).wf = true) (wb : (Lit.int .i64 b).wf = true) : Calls Try.prog 11 #[.int .i64 a, .int .i64 b] w fun e w' => e = .returned (.bool true) ∧ Below w.heap.size w w' := by
  clear wa wb
  go_enter Try.func11, Try.ntmps11
  go_wp2_with (first | (go_at_call 31; refine (c_specJoinNameParts a b _).mono ?_; rintro e w1 ⟨rfl, hb1⟩) | (go_at_call 32; refine (c_implJoinNameParts a b _).mono ?_; rintro e w2 ⟨rfl, hb2⟩))
  go_ret
  exact ⟨rfl, hb1.trans (hb2.mono hb1.size)⟩
end Go.Proofs.Ytcgbimdlackpeaa
