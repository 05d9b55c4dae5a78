/-
  Contracts of the functions that put names together, and the walks of the laws on names.
-/
import Derived.Test.YtfbanjmooknafaaNP
namespace Go.Proofs.Ytfbanjmooknafaa
open Go.RowKit
set_option linter.unusedSimpArgs false
set_option linter.unusedVariables false
set_option maxRecDepth 100000

/-- the name of two numbers -/
def jnOk (a b : Int) : Bool := P.inB a 0 16777215 && P.inB b 0 16777215
def jnB (a b : Int) : List UInt8 := if jnOk a b = true then P.bitsL a.toNat 24 ++ P.bitsL b.toNat 24 else []
theorem pbOk_nil : pbOk [] = false := rfl
theorem pbS_nil : pbS [] = [] := rfl
theorem c_implJoinNameParts (a b : Int) (w : World) : Calls Try.prog 93 #[.int .i64 a, .int .i64 b] w fun e w' => e = .returned (.tuple #[.string (bs (pbS (jnB a b))), .bool (pbOk (jnB a b))]) ∧ Below w.heap.size w w' := by
  cases ha : P.inB a 0 16777215 with
  | false =>
    have HF := Lib.hid (show jnB a b = [] by unfold jnB jnOk; rw [ha]; rfl)
    go_enter Try.func93, Try.ntmps93
    go_wp2_with (go_at_call 141; refine (c_within _ _ _ _).mono ?_; rintro e w' ⟨rfl, rfl⟩)
    go_ret2
    exact ⟨ret_sb (by rw [HF.out]; rfl) (by rw [HF.out]; rfl), Below.refl _ _⟩
  | true =>
    cases hb : P.inB b 0 16777215 with
    | false =>
      have HF := Lib.hid (show jnB a b = [] by unfold jnB jnOk; rw [ha, hb]; rfl)
      go_enter Try.func93, Try.ntmps93
      go_wp2_with (go_at_call 141; refine (c_within _ _ _ _).mono ?_; rintro e w' ⟨rfl, rfl⟩)
      go_ret2
      exact ⟨ret_sb (by rw [HF.out]; rfl) (by rw [HF.out]; rfl), Below.refl _ _⟩
    | true =>
      have HT := Lib.hid (show jnB a b = P.bitsL a.toNat 24 ++ P.bitsL b.toNat 24 by unfold jnB jnOk; rw [ha, hb]; rfl)
      obtain ⟨a0, a1⟩ := P.inB_iff.1 ha
      obtain ⟨b0, b1⟩ := P.inB_iff.1 hb
      obtain ⟨x, rfl⟩ : ∃ x : Nat, a = (x : Int) := ⟨a.toNat, by omega⟩
      obtain ⟨y, rfl⟩ : ∃ y : Nat, b = (y : Int) := ⟨b.toNat, by omega⟩
      obtain ⟨z, hz⟩ : ∃ z, bs (P.bitsL x 24 ++ P.bitsL y 24) = z := ⟨_, rfl⟩
      have hadd : ∀ W, (Op.stringOp .add (bs (P.bitsL x 24)) (bs (P.bitsL y 24))).run Try.prog W = .ok (.string z) W := fun W => by
        rw [← hz]; exact run_add W _ _ (by rw [P.bitsL_len, P.bitsL_len]; omega)
      have HZ := Lib.hid (show jnB x y = B z by rw [HT.out, ← hz]; rfl)
      have hzs : z.size ≤ maxLen := by rw [← B_len, ← HZ.out, HT.out, List.length_append, P.bitsL_len, P.bitsL_len]; unfold maxLen; omega
      have hx : x ≤ 1073741823 := by omega
      have hy : y ≤ 1073741823 := by omega
      clear hz
      go_enter Try.func93, Try.ntmps93
      go_wp2_with (first | (go_at_call 141; refine (c_within _ _ _ _).mono ?_; rintro e w' ⟨rfl, rfl⟩) | (go_at_call 165; refine (c_bitsOf _ 24 _ (by first | exact hx | exact hy) (by omega)).mono ?_; rintro e wq ⟨rfl, hq⟩; first | (have hb2 := hb1.trans (hq.mono hb1.size); clear hq) | (have hb1 := hq; clear hq)) | (go_at_call 91; refine (c_implParseNameBits z _ hzs).mono ?_; rintro e w3 ⟨rfl, hb3⟩))
      go_ret2
      exact ⟨ret_sb (by rw [HZ.out]) (by rw [HZ.out]), (hb2.trans (hb3.mono hb2.size))⟩
theorem c_specJoinNameParts (a b : Int) (w : World) : Calls Try.prog 103 #[.int .i64 a, .int .i64 b] w fun e w' => e = .returned (.tuple #[.string (bs (pbS (jnB a b))), .bool (pbOk (jnB a b))]) ∧ Below w.heap.size w w' := by
  cases ha : P.inB a 0 16777215 with
  | false =>
    have HF := Lib.hid (show jnB a b = [] by unfold jnB jnOk; rw [ha]; rfl)
    go_enter Try.func103, Try.ntmps103
    go_wp2_with (go_at_call 145; refine (c_l1In _ _ _ _).mono ?_; rintro e w' ⟨rfl, rfl⟩)
    go_ret2
    exact ⟨ret_sb (by rw [HF.out]; rfl) (by rw [HF.out]; rfl), Below.refl _ _⟩
  | true =>
    cases hb : P.inB b 0 16777215 with
    | false =>
      have HF := Lib.hid (show jnB a b = [] by unfold jnB jnOk; rw [ha, hb]; rfl)
      go_enter Try.func103, Try.ntmps103
      go_wp2_with (go_at_call 145; refine (c_l1In _ _ _ _).mono ?_; rintro e w' ⟨rfl, rfl⟩)
      go_ret2
      exact ⟨ret_sb (by rw [HF.out]; rfl) (by rw [HF.out]; rfl), Below.refl _ _⟩
    | true =>
      have HT := Lib.hid (show jnB a b = P.bitsL a.toNat 24 ++ P.bitsL b.toNat 24 by unfold jnB jnOk; rw [ha, hb]; rfl)
      obtain ⟨a0, a1⟩ := P.inB_iff.1 ha
      obtain ⟨b0, b1⟩ := P.inB_iff.1 hb
      obtain ⟨x, rfl⟩ : ∃ x : Nat, a = (x : Int) := ⟨a.toNat, by omega⟩
      obtain ⟨y, rfl⟩ : ∃ y : Nat, b = (y : Int) := ⟨b.toNat, by omega⟩
      obtain ⟨z, hz⟩ : ∃ z, bs (P.bitsL x 24 ++ P.bitsL y 24) = z := ⟨_, rfl⟩
      have hadd : ∀ W, (Op.stringOp .add (bs (P.bitsL x 24)) (bs (P.bitsL y 24))).run Try.prog W = .ok (.string z) W := fun W => by
        rw [← hz]; exact run_add W _ _ (by rw [P.bitsL_len, P.bitsL_len]; omega)
      have HZ := Lib.hid (show jnB x y = B z by rw [HT.out, ← hz]; rfl)
      have hzs : z.size ≤ maxLen := by rw [← B_len, ← HZ.out, HT.out, List.length_append, P.bitsL_len, P.bitsL_len]; unfold maxLen; omega
      have hx : x ≤ 1073741823 := by omega
      have hy : y ≤ 1073741823 := by omega
      clear hz
      go_enter Try.func103, Try.ntmps103
      go_wp2_with (first | (go_at_call 145; refine (c_l1In _ _ _ _).mono ?_; rintro e w' ⟨rfl, rfl⟩) | (go_at_call 135; refine (c_l2Of _ 24 _ (by first | exact hx | exact hy) (by omega)).mono ?_; rintro e wq ⟨rfl, rfl⟩) | (go_at_call 95; refine (c_specParseNameBits z _ hzs).mono ?_; rintro e w3 ⟨rfl, hb3⟩))
      go_ret2
      exact ⟨ret_sb (by rw [HZ.out]) (by rw [HZ.out]), hb3⟩
end Go.Proofs.Ytfbanjmooknafaa
