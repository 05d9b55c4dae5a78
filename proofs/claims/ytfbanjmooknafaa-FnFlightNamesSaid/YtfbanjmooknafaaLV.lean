/-
  Plain facts and list versions of contracts for the laws on flight names.
-/
import Derived.Test.YtfbanjmooknafaaDK
import Derived.Test.YtfbanjmooknafaaNP
import Derived.Test.YtfbanjmooknafaaNJ
import Derived.Test.YtfbanjmooknafaaNQ
import Derived.Test.YtfbanjmooknafaaNN
import Derived.Test.YtfbanjmooknafaaPlain4
namespace Go.Proofs.Ytfbanjmooknafaa
open Go.RowKit
set_option linter.unusedSimpArgs false
set_option linter.unusedVariables false
set_option maxRecDepth 100000

theorem numL24 {x : List UInt8} (h : x.length = 24) : P.numL x < 16777216 := by
  have := P.numL_lt x
  rw [h] at this; omega
theorem pb_of {s x : List UInt8} (h : P.nameB s = true) (hx : x = P.nbL s) : pbOk x = true ∧ pbS x = s := by
  subst hx
  obtain ⟨p1, p2⟩ := P.pn_nb h
  have ho : pbOk (P.nbL s) = true := by
    unfold pbOk
    rw [p1, decide_eq_true (P.nbL_len s), P.isBits_yes (by rw [P.nbL_len]; omega) (P.nbL_bits s)]; rfl
  exact ⟨ho, by unfold pbS; rw [if_pos ho, p2]⟩
theorem fn1 {s : List UInt8} (h : P.nameB s = true) : (pbOk (nbS s) = true ∧ pbS (nbS s) = s) ∧ npOk s 0 = true ∧ npOk s 1 = true ∧ pbOk (jnB (npI s 0) (npI s 1)) = true ∧ pbS (jnB (npI s 0) (npI s 1)) = s := by
  have e : nbS s = P.nbL s := by unfold nbS; rw [if_pos h]
  have n0 : npOk s 0 = true := by unfold npOk; rw [h]; rfl
  have n1 : npOk s 1 = true := by unfold npOk; rw [h]; rfl
  have hl := P.nbL_len s
  have hb := P.nbL_bits s
  have i0 : npI s 0 = (P.numL ((P.nbL s).take 24) : Int) := by unfold npI; rw [if_pos n0]; simp
  have i1 : npI s 1 = (P.numL ((P.nbL s).drop 24) : Int) := by
    unfold npI; rw [if_pos n1]
    have : ((P.nbL s).drop (24 * (1 : Int).toNat)).take 24 = (P.nbL s).drop 24 := by
      rw [show 24 * (1 : Int).toNat = 24 by decide]
      exact List.take_of_length_le (by rw [List.length_drop]; omega)
    rw [this]
  have t1 : ((P.nbL s).take 24).length = 24 := by rw [List.length_take]; omega
  have t2 : ((P.nbL s).drop 24).length = 24 := by rw [List.length_drop]; omega
  have l1 := numL24 t1
  have l2 := numL24 t2
  have b1 := P.bits_numL (P.all_take hb 24)
  have b2 := P.bits_numL (P.all_drop hb 24)
  rw [t1] at b1
  rw [t2] at b2
  have hj : jnB (npI s 0) (npI s 1) = P.nbL s := by
    have ho : jnOk (npI s 0) (npI s 1) = true := by
      unfold jnOk; rw [i0, i1, Bool.and_eq_true, P.inB_iff, P.inB_iff]; omega
    unfold jnB
    rw [if_pos ho, i0, i1, Int.toNat_natCast, Int.toNat_natCast, b1, b2, List.take_append_drop]
  exact ⟨pb_of h e, n0, n1, pb_of h hj⟩
theorem sf1 {s : List UInt8} (h : P.sfOk s = true) : ∃ t : List UInt8, P.fiOk (P.sfI s) = true ∧ P.fiT (P.sfI s) = t ∧ P.sfS s ++ t = s := by
  obtain ⟨h1, h2, h3, h4⟩ := P.sf_to h
  have hr := P.sfOk_iff.1 h
  have e : P.sfI s = (P.val (P.sfR s) : Int) := by unfold P.sfI; rw [if_pos h]
  have hv := P.inB_iff.1 hr.2.2
  have ho : P.fiOk (P.sfI s) = true := by unfold P.fiOk; rw [e]; exact P.inB_iff.2 ⟨by omega, by omega⟩
  refine ⟨P.sfR s, ho, ?_, ?_⟩
  · unfold P.fiT; rw [if_pos ho, e, ← h3, h4]
  · unfold P.sfS P.sfR; rw [if_pos h, List.take_append_drop]
end Go.Proofs.Ytfbanjmooknafaa
