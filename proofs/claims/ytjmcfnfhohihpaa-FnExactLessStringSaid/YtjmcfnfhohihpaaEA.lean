/-
  The walks of the laws of seat A: the program's function and the reference's return the same.
-/
import Derived.Test.YtjmcfnfhohihpaaT
import Derived.Test.YtjmcfnfhohihpaaN
import Derived.Test.YtjmcfnfhohihpaaC1
namespace Go.Proofs.Ytjmcfnfhohihpaa
open Go.RowKit
set_option linter.unusedSimpArgs false
set_option linter.unusedVariables false

theorem l_FnExactFormatInt (n : Int) (hw : (Lit.int .i64 n).wf = true) (w : World) : Calls Try.prog 6 #[.int .i64 n] w fun e w' => e = .returned (.bool true) ∧ Below w.heap.size w w' := by
  go_enter Try.func6, Try.ntmps6
  go_wp2_with (first | (go_at_call 19; refine (c_specFormatInt n _).mono ?_; rintro e w1 ⟨rfl, hb1⟩) | (go_at_call 20; refine (c_implFormatInt n _).mono ?_; rintro e w2 ⟨rfl, hb2⟩))
  go_ret
  exact ⟨rfl, hb1.trans (hb2.mono hb1.size)⟩
theorem l_FnExactConstants (w : World) : Calls Try.prog 3 #[] w fun e w' => e = .returned (.bool true) ∧ Below w.heap.size w w' := by
  go_enter Try.func3, Try.ntmps3
  go_wp2
  go_ret
  exact ⟨rfl, Below.refl _ _⟩
theorem l_FnExactLessString (s t : ByteArray) (hs : s.size ≤ maxLen) (ht : t.size ≤ maxLen) (w : World) : Calls Try.prog 4 #[.string s, .string t] w fun e w' => e = .returned (.bool true) ∧ Below w.heap.size w w' := by
  unfold maxLen at hs ht
  go_enter Try.func4, Try.ntmps4
  go_wp2
  all_goals
    go_ret
    exact ⟨rfl, Below.refl _ _⟩
theorem l_FnExactChecksum (s : ByteArray) (hs : s.size ≤ maxLen) (w : World) : Calls Try.prog 5 #[.string s] w fun e w' => e = .returned (.bool true) ∧ Below w.heap.size w w' := by
  have hs' := hs
  unfold maxLen at hs'
  by_cases h : s.size ≤ 1048576
  · go_enter Try.func5, Try.ntmps5
    go_wp2_with (first | (go_at_call 17; refine (c_specChecksum s _ hs).mono ?_; rintro e w1 ⟨rfl, rfl⟩) | (go_at_call 18; refine (c_implChecksum s _ hs).mono ?_; rintro e w2 ⟨rfl, rfl⟩))
    go_ret
    exact ⟨rfl, Below.refl _ _⟩
  · go_enter Try.func5, Try.ntmps5
    go_wp2
    go_ret
    exact ⟨rfl, Below.refl _ _⟩
theorem l_FnExactLetterOf (n : Int) (hw : (Lit.int .i64 n).wf = true) (w : World) : Calls Try.prog 13 #[.int .i64 n] w fun e w' => e = .returned (.bool true) ∧ Below w.heap.size w w' := by
  go_enter Try.func13, Try.ntmps13
  go_wp2_with (first | (go_at_call 39; refine (c_specLetterOf n _).mono ?_; rintro e w1 ⟨rfl, hq⟩) | (go_at_call 40; refine (c_implLetterOf n _).mono ?_; rintro e w2 ⟨rfl, rfl⟩))
  go_ret
  exact ⟨rfl, hq.below _⟩
theorem l_FnExactLetterCode (n : Int) (hw : (Lit.int .u8 n).wf = true) (w : World) : Calls Try.prog 14 #[.int .u8 n] w fun e w' => e = .returned (.bool true) ∧ Below w.heap.size w w' := by
  obtain ⟨c, rfl⟩ : ∃ c : UInt8, n = (c.toNat : Int) := by
    have hb := bounds_u8 hw
    exact ⟨UInt8.ofNat n.toNat, by rw [UInt8.toNat_ofNat']; omega⟩
  go_enter Try.func14, Try.ntmps14
  go_wp2_with (first | (go_at_call 41; refine (c_specLetterCode c _).mono ?_; rintro e w1 ⟨rfl, rfl⟩) | (go_at_call 42; refine (c_implLetterCode c _).mono ?_; rintro e w2 ⟨rfl, rfl⟩))
  go_ret
  exact ⟨rfl, Below.refl _ _⟩
end Go.Proofs.Ytjmcfnfhohihpaa
