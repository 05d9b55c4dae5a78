/-
  Contracts of the draws for the law on flips.
-/
import Derived.Test.YtfbanjmooknafaaLB
namespace Go.Proofs.Ytfbanjmooknafaa
open Go.RowKit
set_option linter.unusedSimpArgs false
set_option linter.unusedVariables false
set_option maxRecDepth 100000

theorem c_DrawFlipBit (A : Option Addr) (n c : Nat) (l : List UInt8) (w : World) (hl : l.length = n) (hn : n ≤ 65536) (h : Holds w A (ub l)) : Calls Try.prog 39 #[.slice A n c] w (GaveSI 300 (-1) 400 w) := by
  have hcn := cur_new (w := w) (A := A) c 102 h
  rw [hl] at hcn
  obtain ⟨W0, hW0⟩ : ∃ W0, w.alloc (.cells #[.slice A n c, .int .i64 0, .int .u64 0] 102) = W0 := ⟨_, rfl⟩
  rw [hW0] at hcn
  have HC := Lib.hid hcn
  have HL := Lib.hid (show l.length ≤ 70000 by omega)
  clear h hl hcn
  go_enter Try.func39, Try.ntmps39
  go_wp2_with fail
  refine (c_anyBits 20 w.heap.size l 0 _ HC.out (by omega) HL.out (by omega)).mono ?_
  rintro e w1 ⟨x, hx, rfl, hc1, hg1⟩
  have hx3 : x.length ≤ 300 := hx
  have HC1 := Lib.hid hc1
  have HG1 := Lib.hid hg1
  have hxs := bs_size x
  have hxs3 : (bs x).size ≤ 300 := by omega
  have HXS := Lib.hid hxs
  clear hc1 hg1 hx hxs
  go_wp2_with fail
  refine (c_pick _ w.heap.size l _ _ HC1.out (by omega) HL.out (by omega) (by omega)).mono ?_
  rintro e w2 ⟨y, y0, y1, rfl, hc2, hg2⟩
  have HG2 := Lib.hid (only_trans HG1.out hg2)
  clear hc2 hg2
  have HB := Lib.hid (cur_below hW0 HG2.out)
  clear hW0
  go_wp2
  go_ret2
  exact ⟨x, y - 1, hx3, by omega, by omega, rfl, HB.out⟩
theorem c_DrawXorBits (A : Option Addr) (n c : Nat) (l : List UInt8) (w : World) (hl : l.length = n) (hn : n ≤ 65536) (h : Holds w A (ub l)) : Calls Try.prog 42 #[.slice A n c] w (GaveSS 300 w) := by
  have hcn := cur_new (w := w) (A := A) c 102 h
  rw [hl] at hcn
  obtain ⟨W0, hW0⟩ : ∃ W0, w.alloc (.cells #[.slice A n c, .int .i64 0, .int .u64 0] 102) = W0 := ⟨_, rfl⟩
  rw [hW0] at hcn
  have HC := Lib.hid hcn
  have HL := Lib.hid (show l.length ≤ 70000 by omega)
  clear h hl hcn
  obtain ⟨g, hg⟩ : ∃ g, w.heap.size = g := ⟨_, rfl⟩
  have HGZ := Lib.hid hg
  rw [hg] at HC
  go_enter Try.func42, Try.ntmps42
  go_wp2_with fail
  have HWZ := Lib.hid hW0
  clear hW0 hg
  try rw [HGZ.out]
  refine (c_anyBits 20 g l 0 _ HC.out (by omega) HL.out (by omega)).mono ?_
  rintro e w1 ⟨x, hx, rfl, hc1, hg1⟩
  have hx3 : x.length ≤ 300 := hx
  have HC1 := Lib.hid hc1
  have HG1 := Lib.hid hg1
  have hxs := bs_size x
  have hxs3 : (bs x).size ≤ 300 := by omega
  obtain ⟨X, hX⟩ : ∃ X, bs x = X := ⟨_, rfl⟩
  rw [hX] at hxs3 ⊢
  have HXX := Lib.hid hX
  clear hc1 hg1 hx hxs hX
  go_wp2
  go_loopw [6] (fun s wr => ∃ (q : Nat) (y : List UInt8), s = .string (bs y) ∧ y.length = q ∧ q ≤ X.size ∧ Cur wr g l (2000 + 2 * q) ∧ W0.grownBy wr (some g)) (fun s _ => X.size - strLen s)
  case atStart => exact ⟨0, [], rfl, rfl, by omega, HC1.out, HG1.out⟩
  case round =>
    obtain ⟨q, y, rfl, hy, hq, hcr, hgr⟩ := hrel
    have HCR := Lib.hid hcr
    have HGR := Lib.hid hgr
    have hys := bs_size y
    have HYS := Lib.hid hys
    have HY := Lib.hid hy
    have hyl : y.length ≤ 300 := by omega
    clear hcr hgr hys hy
    by_cases hlt : q < X.size
    · have e1 : ((bs y).size : Int) < (X.size : Int) := by have h1 := HYS.out; have h2 := HY.out; omega
      have HA := Lib.hid (holds_new wr ([[48], [49]].map vs) 9)
      have HCA := Lib.hid (HCR.out.alloc (.cells ([[48], [49]].map vs).toArray 9))
      have HGA := Lib.hid (grown_alloc HGR.out (.cells ([[48], [49]].map vs).toArray 9))
      have HNE := Lib.hid (lit_ne HCR.out)
      go_wp2_with fail
      refine (c_of _ 2 2 [[48], [49]] g l (2000 + 2 * q) _ rfl (by exact HA.out) HNE.out (by exact HCA.out) (by omega) HL.out (by omega) (by omega)).mono ?_
      rintro e w4 ⟨b, hcm, rfl, hc4, hg4⟩
      have HC4 := Lib.hid hc4
      have HG4 := Lib.hid (only_trans HGA.out hg4)
      have hb1 : b.length = 1 := by
        rcases List.mem_cons.1 hcm with rfl | hcm
        · rfl
        · rcases List.mem_cons.1 hcm with rfl | hcm
          · rfl
          · cases hcm
      have hadd : ∀ W, (Op.stringOp .add (bs y) (bs b)).run Try.prog W = .ok (.string (bs (y ++ b))) W := fun W => run_add W y b (by omega)
      have HN := Lib.hid (show (y ++ b).length = q + 1 by rw [List.length_append, hb1, HY.out])
      clear hc4 hg4 hcm hb1
      go_wp2
      go_roundw
      case rel => exact ⟨q + 1, y ++ b, rfl, HN.out, by omega, HC4.out.mono (by omega), HG4.out⟩
      case measure =>
        have h1 := HN.out
        have h2 := bs_size (y ++ b)
        have h3 := HYS.out
        have h4 := HY.out
        show X.size - (bs (y ++ b)).size < X.size - (bs y).size
        omega
    · have e1 : ¬ ((bs y).size : Int) < (X.size : Int) := by have h1 := HYS.out; have h2 := HY.out; omega
      go_wp2_with fail
      refine (c_one 8 g l _ _ HCR.out (by omega) HL.out (by omega) (by omega)).mono ?_
      rintro e w5 ⟨b5, rfl, hc5, hg5⟩
      have HC5 := Lib.hid hc5
      have HG5 := Lib.hid (only_trans HGR.out hg5)
      clear hc5 hg5
      cases b5 with
      | false =>
        have HB := Lib.hid (cur_below HWZ.out (by rw [HGZ.out]; exact HG5.out))
        go_wp2
        go_ret2
        exact ⟨x, y, hx3, hyl, by rw [HXX.out]; rfl, HB.out⟩
      | true =>
        go_wp2_with fail
        refine (c_anyBits 20 g l _ _ HC5.out (by omega) HL.out (by omega)).mono ?_
        rintro e w6 ⟨v, hv, rfl, hc6, hg6⟩
        have hv3 : v.length ≤ 300 := hv
        have HG6 := Lib.hid (only_trans HG5.out hg6)
        have HB := Lib.hid (cur_below HWZ.out (by rw [HGZ.out]; exact HG6.out))
        clear hc6 hg6 hv
        go_wp2
        go_ret2
        exact ⟨x, v, hx3, hv3, by rw [HXX.out]; rfl, HB.out⟩

end Go.Proofs.Ytfbanjmooknafaa
