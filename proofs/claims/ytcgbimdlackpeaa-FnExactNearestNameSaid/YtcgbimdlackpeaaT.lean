/-
  Contracts of the functions that write integers as decimal text.
-/
import Derived.Test.YtcgbimdlackpeaaW
namespace Go.Proofs.Ytcgbimdlackpeaa
open Go.RowKit
set_option linter.unusedSimpArgs false
set_option linter.unusedVariables false


theorem digit_cut (n : Nat) (hn : n < 10) : (⟨#[48, 49, 50, 51, 52, 53, 54, 55, 56, 57]⟩ : ByteArray).extract n (n + 1) = bs [P.dg n] := by
  have : n = 0 ∨ n = 1 ∨ n = 2 ∨ n = 3 ∨ n = 4 ∨ n = 5 ∨ n = 6 ∨ n = 7 ∨ n = 8 ∨ n = 9 := by omega
  rcases this with rfl | rfl | rfl | rfl | rfl | rfl | rfl | rfl | rfl | rfl <;> rfl
theorem c_l1Num_nat (n : Nat) : n ≤ 999999999 → ∀ w : World, Calls Try.prog 59 #[.int .i64 n] w fun e w' => e = .returned (.string (bs (P.dec n))) ∧ Qt w w' := by
  induction n using P.dec_ind with
  | h1 n hn =>
    intro h1 w
    have HR := Lib.hid (P.dec_small hn)
    have hsl := digit_cut n hn
    go_enter Try.func59, Try.ntmps59
    go_wp2
    go_ret
    exact ⟨ret_bs HR.out.symm, Qt.refl _⟩
  | h2 n hn ih =>
    intro h1 w
    have HR := Lib.hid (P.dec_big hn)
    have hsl := digit_cut (n % 10) (by omega)
    have hdl := P.dec_len 9 (n / 10) (by omega) (by simp; omega)
    have hadd : ∀ W, (Op.stringOp .add (bs (P.dec (n / 10))) (bs [P.dg (n % 10)])).run Try.prog W = .ok (.string (bs (P.dec (n / 10) ++ [P.dg (n % 10)]))) W := fun W => run_add W _ _ (by simp; omega)
    have IH := Lib.hid (ih (by omega))
    clear ih hdl
    go_enter Try.func59, Try.ntmps59
    go_wp2_with fail
    go_quiet ((go_at_call 59; exact quiet_call (IH.out _)))
    go_wp2
    go_ret
    exact ⟨ret_bs HR.out.symm, Qt.of _ _⟩
theorem c_l1Num (n : Int) (w : World) (h0 : -999999 ≤ n) (h1 : n ≤ 999999) : Calls Try.prog 59 #[.int .i64 n] w fun e w' => e = .returned (.string (bs (P.txt n))) ∧ Qt w w' := by
  by_cases hn : n < 0
  · obtain ⟨k, rfl⟩ : ∃ k : Nat, n = -(k : Int) := ⟨(-n).toNat, by omega⟩
    have hdl := P.dec_len 6 k (by omega) (by simp; omega)
    have hadd : ∀ W, (Op.stringOp .add ⟨#[45]⟩ (bs (P.dec k))).run Try.prog W = .ok (.string (bs (45 :: P.dec k))) W := fun W => run_add W [45] _ (by simp; omega)
    have HR := Lib.hid (show 45 :: P.dec k = P.txt (-(k : Int)) by unfold P.txt; rw [if_pos hn, Int.neg_neg, Int.toNat_natCast])
    clear hdl
    go_enter Try.func59, Try.ntmps59
    go_wp2_with (go_at_call 59; refine (c_l1Num_nat k (by omega) _).mono ?_; rintro e w' ⟨rfl, hb⟩)
    go_ret
    exact ⟨ret_bs HR.out, hb⟩
  · obtain ⟨k, rfl⟩ : ∃ k : Nat, n = (k : Int) := ⟨n.toNat, by omega⟩
    have h := c_l1Num_nat k (by omega) w
    unfold P.txt
    rw [if_neg hn]
    exact h



end Go.Proofs.Ytcgbimdlackpeaa
