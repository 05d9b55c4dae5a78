/-
  Contracts of the functions that write integers as decimal text.
-/
import Derived.Test.YtfbanjmooknafaaW
namespace Go.Proofs.Ytfbanjmooknafaa
open Go.RowKit
set_option linter.unusedSimpArgs false
set_option linter.unusedVariables false

theorem c_text_pos (n : Int) (w : World) (h0 : 0 ≤ n) (h1 : n ≤ 999999999) : Calls Try.prog 159 #[.int .i64 n] w fun e w' => e = .returned (.string (bs (P.dec n.toNat))) ∧ Below w.heap.size w w' := by
  have hdl := P.dec_len 9 n.toNat (by omega) (by simp; omega)
  go_enter Try.func159, Try.ntmps159
  go_wp2
  go_loopw [0, 3] (fun m o wr => ∃ (k : Nat) (l : List UInt8), k ≤ 999999999 ∧ m = .int .i64 k ∧ o = .string (bs l) ∧ P.dec n.toNat = P.dec k ++ l ∧ Below w.heap.size w wr) (fun m _ _ => (intOf m).toNat)
  case atStart => exact ⟨n.toNat, [], by omega, by go_num, rfl, by simp, Below.refl _ _⟩
  case round =>
    obtain ⟨k, l, hk, rfl, rfl, he, hb⟩ := hrel
    have hl := congrArg List.length he
    rw [List.length_append] at hl
    have hl2 : l.length ≤ 9 := by omega
    have HE := Lib.hid he
    clear he hl hdl
    have hsz := hb.size
    have hcv := fun (W : World) (x : Int) => run_str_one (P := Try.prog) 22 9 5 Try.underlying22 Try.underlying5 Try.underlying9 W x
    have hdg : UInt8.ofNat ((48 : Int) + (k : Int) % 10).toNat = P.dg (k % 10) := by unfold P.dg; congr 1
    have hadd : ∀ W, (Op.stringOp .add (bs [P.dg (k % 10)]) (bs l)).run Try.prog W = .ok (.string (bs (P.dg (k % 10) :: l))) W := fun W => run_add W _ _ (by simp; omega)
    by_cases h10 : k < 10
    · have hz : ((k : Int) / 10 == 0) = true := beq_iff_eq.2 (by omega)
      have HR := Lib.hid (show P.dg (k % 10) :: l = P.dec n.toNat by rw [HE.out, P.dec_small h10, Nat.mod_eq_of_lt h10]; rfl)
      go_wp2
      go_ret
      exact ⟨ret_bs HR.out, hb.alloc hsz _⟩
    · have hz : ((k : Int) / 10 == 0) = false := beq_eq_false_iff_ne.2 (by omega)
      have HR := Lib.hid (show P.dec n.toNat = P.dec (k / 10) ++ P.dg (k % 10) :: l by rw [HE.out, P.dec_big (by omega)]; simp)
      go_wp2
      go_roundw
      case rel => exact ⟨k / 10, _, by omega, by go_num, rfl, HR.out, hb.alloc hsz _⟩
      case measure => simp [intOf]; omega
theorem c_text (n : Int) (w : World) (h0 : -999999 ≤ n) (h1 : n ≤ 999999) : Calls Try.prog 159 #[.int .i64 n] w fun e w' => e = .returned (.string (bs (P.txt n))) ∧ Below w.heap.size w w' := by
  by_cases hn : n < 0
  · have hdl := P.dec_len 6 (-n).toNat (by omega) (by simp; omega)
    have hadd : ∀ W, (Op.stringOp .add ⟨#[45]⟩ (bs (P.dec (-n).toNat))).run Try.prog W = .ok (.string (bs (45 :: P.dec (-n).toNat))) W := fun W => run_add W [45] _ (by simp; omega)
    have HR := Lib.hid (show 45 :: P.dec (-n).toNat = P.txt n by unfold P.txt; rw [if_pos hn])
    go_enter Try.func159, Try.ntmps159
    go_wp2_with (go_at_call 159; refine (c_text_pos _ _ (by omega) (by omega)).mono ?_; rintro e w' ⟨rfl, hb⟩)
    go_ret
    exact ⟨ret_bs HR.out, hb⟩
  · have h := c_text_pos n w (by omega) (by omega)
    unfold P.txt
    rw [if_neg hn]
    exact h

theorem digit_cut (n : Nat) (hn : n < 10) : (⟨#[48, 49, 50, 51, 52, 53, 54, 55, 56, 57]⟩ : ByteArray).extract n (n + 1) = bs [P.dg n] := by
  have : n = 0 ∨ n = 1 ∨ n = 2 ∨ n = 3 ∨ n = 4 ∨ n = 5 ∨ n = 6 ∨ n = 7 ∨ n = 8 ∨ n = 9 := by omega
  rcases this with rfl | rfl | rfl | rfl | rfl | rfl | rfl | rfl | rfl | rfl <;> rfl
theorem c_l1Num_nat (n : Nat) : n ≤ 999999999 → ∀ w : World, Calls Try.prog 160 #[.int .i64 n] w fun e w' => e = .returned (.string (bs (P.dec n))) ∧ Qt w w' := by
  induction n using P.dec_ind with
  | h1 n hn =>
    intro h1 w
    have HR := Lib.hid (P.dec_small hn)
    have hsl := digit_cut n hn
    go_enter Try.func160, Try.ntmps160
    go_wp2
    go_ret
    exact ⟨ret_bs HR.out.symm, Qt.refl _⟩
  | h2 n hn ih =>
    intro h1 w
    have HR := Lib.hid (P.dec_big hn)
    have hsl := digit_cut (n % 10) (by omega)
    have hdl := P.dec_len 9 (n / 10) (by omega) (by simp; omega)
    have hadd : ∀ W, (Op.stringOp .add (bs (P.dec (n / 10))) (bs [P.dg (n % 10)])).run Try.prog W = .ok (.string (bs (P.dec (n / 10) ++ [P.dg (n % 10)]))) W := fun W => run_add W _ _ (by simp; omega)
    have IH := Lib.hid (ih (by omega))
    clear ih hdl
    go_enter Try.func160, Try.ntmps160
    go_wp2_with fail
    go_quiet ((go_at_call 160; exact quiet_call (IH.out _)))
    go_wp2
    go_ret
    exact ⟨ret_bs HR.out.symm, Qt.of _ _⟩
theorem c_l1Num (n : Int) (w : World) (h0 : -999999 ≤ n) (h1 : n ≤ 999999) : Calls Try.prog 160 #[.int .i64 n] w fun e w' => e = .returned (.string (bs (P.txt n))) ∧ Qt w w' := by
  by_cases hn : n < 0
  · obtain ⟨k, rfl⟩ : ∃ k : Nat, n = -(k : Int) := ⟨(-n).toNat, by omega⟩
    have hdl := P.dec_len 6 k (by omega) (by simp; omega)
    have hadd : ∀ W, (Op.stringOp .add ⟨#[45]⟩ (bs (P.dec k))).run Try.prog W = .ok (.string (bs (45 :: P.dec k))) W := fun W => run_add W [45] _ (by simp; omega)
    have HR := Lib.hid (show 45 :: P.dec k = P.txt (-(k : Int)) by unfold P.txt; rw [if_pos hn, Int.neg_neg, Int.toNat_natCast])
    clear hdl
    go_enter Try.func160, Try.ntmps160
    go_wp2_with (go_at_call 160; refine (c_l1Num_nat k (by omega) _).mono ?_; rintro e w' ⟨rfl, hb⟩)
    go_ret
    exact ⟨ret_bs HR.out, hb⟩
  · obtain ⟨k, rfl⟩ : ∃ k : Nat, n = (k : Int) := ⟨n.toNat, by omega⟩
    have h := c_l1Num_nat k (by omega) w
    unfold P.txt
    rw [if_neg hn]
    exact h

theorem c_specFormatInt (n : Int) (w : World) : Calls Try.prog 46 #[.int .i64 n] w fun e w' => e = .returned (.tuple #[.string (bs (P.fiT n)), .bool (P.fiOk n)]) ∧ Below w.heap.size w w' := by
  unfold P.fiT P.fiOk
  cases h : P.inB n (-999999) 999999 with
  | true =>
    have hr := P.inB_iff.1 h
    go_enter Try.func46, Try.ntmps46
    go_wp2_with (first | (go_at_call 160; refine (c_l1Num n _ hr.1 hr.2).mono ?_; rintro e w' ⟨rfl, hb⟩) | (go_at_call 145; refine (c_l1In _ _ _ _).mono ?_; rintro e w' ⟨rfl, rfl⟩))
    go_ret2
    exact ⟨rfl, hb.below _⟩
  | false =>
    go_enter Try.func46, Try.ntmps46
    go_wp2_with (go_at_call 145; refine (c_l1In _ _ _ _).mono ?_; rintro e w' ⟨rfl, rfl⟩)
    go_ret2
    exact ⟨rfl, Below.refl _ _⟩

theorem c_implFormatInt (n : Int) (w : World) : Calls Try.prog 45 #[.int .i64 n] w fun e w' => e = .returned (.tuple #[.string (bs (P.fiT n)), .bool (P.fiOk n)]) ∧ Below w.heap.size w w' := by
  unfold P.fiT P.fiOk
  cases h : P.inB n (-999999) 999999 with
  | true =>
    have hr := P.inB_iff.1 h
    go_enter Try.func45, Try.ntmps45
    go_wp2_with (first | (go_at_call 159; refine (c_text n _ hr.1 hr.2).mono ?_; rintro e w' ⟨rfl, hb⟩) | (go_at_call 141; refine (c_within _ _ _ _).mono ?_; rintro e w' ⟨rfl, rfl⟩))
    go_ret2
    exact ⟨rfl, hb⟩
  | false =>
    go_enter Try.func45, Try.ntmps45
    go_wp2_with (go_at_call 141; refine (c_within _ _ _ _).mono ?_; rintro e w' ⟨rfl, rfl⟩)
    go_ret2
    exact ⟨rfl, Below.refl _ _⟩

end Go.Proofs.Ytfbanjmooknafaa
