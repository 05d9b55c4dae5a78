/-
  The walks of the laws on reading integers and on checksummed texts.
-/
import Derived.Test.YtjmcfnfhohihpaaR
import Derived.Test.YtjmcfnfhohihpaaA
namespace Go.Proofs.Ytjmcfnfhohihpaa
open Go.RowKit
set_option linter.unusedSimpArgs false
set_option linter.unusedVariables false

theorem l_FnExactParseInt (s : ByteArray) (hs : s.size ≤ maxLen) (w : World) : Calls Try.prog 7 #[.string s] w fun e w' => e = .returned (.bool true) ∧ Below w.heap.size w w' := by
  have hs' := hs
  unfold maxLen at hs'
  by_cases h : s.size ≤ 1048576
  · go_enter Try.func7, Try.ntmps7
    go_wp2_with (first | (go_at_call 21; refine (c_specParseInt s _ hs).mono ?_; rintro e w1 ⟨rfl, hb1⟩) | (go_at_call 22; refine (c_implParseInt s _ hs).mono ?_; rintro e w2 ⟨rfl, hb2⟩))
    go_ret
    exact ⟨rfl, by subst hb2; exact hb1.below _⟩
  · go_enter Try.func7, Try.ntmps7
    go_wp2
    go_ret
    exact ⟨rfl, Below.refl _ _⟩
theorem l_FnExactAppendChecksum (s : ByteArray) (hs : s.size ≤ maxLen) (w : World) : Calls Try.prog 9 #[.string s] w fun e w' => e = .returned (.bool true) ∧ Below w.heap.size w w' := by
  have hs' := hs
  unfold maxLen at hs'
  by_cases h : s.size ≤ 1048576
  · go_enter Try.func9, Try.ntmps9
    go_wp2_with (first | (go_at_call 28; refine (c_specAppendChecksum s _ (by omega)).mono ?_; rintro e w1 ⟨rfl, hb1⟩) | (go_at_call 29; refine (c_implAppendChecksum s _ (by omega)).mono ?_; rintro e w2 ⟨rfl, hb2⟩))
    go_ret
    exact ⟨rfl, (hb1.below _).trans (hb2.mono (hb1.below 0).size)⟩
  · go_enter Try.func9, Try.ntmps9
    go_wp2
    go_ret
    exact ⟨rfl, Below.refl _ _⟩
theorem l_FnExactVerifyChecksum (s : ByteArray) (hs : s.size ≤ maxLen) (w : World) : Calls Try.prog 10 #[.string s] w fun e w' => e = .returned (.bool true) ∧ Below w.heap.size w w' := by
  have hs' := hs
  unfold maxLen at hs'
  by_cases h : s.size ≤ 1048576
  · go_enter Try.func10, Try.ntmps10
    go_wp2_with (first | (go_at_call 30; refine (c_specVerifyChecksum s _ (by omega)).mono ?_; rintro e w1 ⟨rfl, hb1⟩) | (go_at_call 31; refine (c_implVerifyChecksum s _ (by omega)).mono ?_; rintro e w2 ⟨rfl, hb2⟩))
    go_ret
    exact ⟨rfl, hb1.trans (hb2.mono hb1.size)⟩
  · go_enter Try.func10, Try.ntmps10
    go_wp2
    go_ret
    exact ⟨rfl, Below.refl _ _⟩
end Go.Proofs.Ytjmcfnfhohihpaa
