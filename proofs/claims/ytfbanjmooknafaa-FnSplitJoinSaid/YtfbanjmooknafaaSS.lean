/-
  Contracts of SplitString and the walk of its law.
-/
import Derived.Test.YtfbanjmooknafaaS
import Derived.Test.YtfbanjmooknafaaM
namespace Go.Proofs.Ytfbanjmooknafaa
open Go.RowKit
set_option linter.unusedSimpArgs false
set_option linter.unusedVariables false

theorem ss_long {s sep : ByteArray} (h : 4000 < s.size) : P.ssOk (B s) (B sep) = false := by unfold P.ssOk; rw [B_len, decide_eq_false (by omega)]; rfl
theorem ss_sep {s sep : ByteArray} (h : sep.size ≠ 1) : P.ssOk (B s) (B sep) = false := by unfold P.ssOk; rw [B_len, B_len, decide_eq_false (p := sep.size = 1) h, Bool.and_false]
theorem ss_yes {s sep : ByteArray} (h : ¬ 4000 < s.size) (h1 : sep.size = 1) : P.ssOk (B s) (B sep) = true := by unfold P.ssOk; rw [B_len, B_len, decide_eq_true h1, decide_eq_true (by omega)]; rfl
theorem ssL_no {s sep : List UInt8} (h : P.ssOk s sep = false) : P.ssL s sep = [] := by unfold P.ssL; rw [h]; rfl
theorem ssL_yes {s sep : ByteArray} (h : P.ssOk (B s) (B sep) = true) (h1 : 0 < sep.size) : P.ssL (B s) (B sep) = P.spl (sep[0]'h1) (B s) := by
  unfold P.ssL; rw [h, if_pos rfl]; congr 1
  have := B_head sep h1
  cases hb : B sep with
  | nil => rw [hb] at this; simp at this
  | cons a t => rw [hb] at this; simp at this; rw [this]; rfl
theorem ret_rowb {T : TypeId} {w w' : World} {A : Option Addr} {n cap : Nat} {l : List Value} {b b' : Bool} (hn : n = l.length) (hb' : b = b') (hown : w'.ownsRow w.heap.size T 1 (.slice A n cap) n l) (hb : Below w.heap.size w w') :
    RetRowB T w l b' (.returned (.tuple #[.slice A n cap, .bool b])) w' := by
  subst hn hb'
  exact ⟨A, cap, rfl, hown, hb⟩
theorem c_implSplitString (s sep : ByteArray) (w : World) (hs : s.size ≤ 2097152) (hs2 : sep.size ≤ 2097152) : Calls Try.prog 32 #[.string s, .string sep] w (RetRowB 9 w ((P.ssL (B s) (B sep)).map vs) (P.ssOk (B s) (B sep))) := by
  by_cases h4 : 4000 < s.size
  · have HF := Lib.hid (ss_long (sep := sep) h4)
    have HL := Lib.hid (ssL_no HF.out)
    by_cases h1 : sep.size = 1
    · have h1' : ((sep.size : Int) != 1) = false := by rw [bne_eq_false_iff_eq]; omega
      clear h1
      go_enter Try.func32, Try.ntmps32
      go_wp2
      go_ret2
      exact ret_rowb (by rw [HL.out]; rfl) HF.out.symm (by rw [HL.out]; exact World.ownsRow_nil _ _ _ _) (Below.refl _ _)
    · have h1' : ((sep.size : Int) != 1) = true := by rw [bne_iff_ne]; omega
      clear h1
      go_enter Try.func32, Try.ntmps32
      go_wp2
      go_ret2
      exact ret_rowb (by rw [HL.out]; rfl) HF.out.symm (by rw [HL.out]; exact World.ownsRow_nil _ _ _ _) (Below.refl _ _)
  · by_cases h1 : sep.size = 1
    · have HF := Lib.hid (ss_yes h4 h1)
      have h1p : 0 < sep.size := by omega
      have HL := Lib.hid (ssL_yes HF.out h1p)
      have h1' : ((sep.size : Int) != 1) = false := by rw [bne_eq_false_iff_eq]; omega
      obtain ⟨b, hb⟩ : ∃ b, sep[0]'h1p = b := ⟨_, rfl⟩
      have HB := Lib.hid hb
      clear h1
      go_enter Try.func32, Try.ntmps32
      go_wp2_with (go_at_call 153; refine (c_split s b _ hs).mono ?_; rintro e w' ⟨g, cap, rfl, hown, hbl⟩; simp only [List.length_map] at hown; have HO := Lib.hid hown; clear hown)
      go_ret2
      exact ret_rowb (by rw [HL.out, HB.out, List.length_map]) HF.out.symm (by rw [HL.out, HB.out]; exact HO.out) hbl
    · have HF := Lib.hid (ss_sep (s := s) h1)
      have HL := Lib.hid (ssL_no HF.out)
      have h1' : ((sep.size : Int) != 1) = true := by rw [bne_iff_ne]; omega
      clear h1
      go_enter Try.func32, Try.ntmps32
      go_wp2
      go_ret2
      exact ret_rowb (by rw [HL.out]; rfl) HF.out.symm (by rw [HL.out]; exact World.ownsRow_nil _ _ _ _) (Below.refl _ _)
end Go.Proofs.Ytfbanjmooknafaa
