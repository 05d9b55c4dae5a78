/-
  Contracts of the draws for the laws on bits and parities.
-/
import Derived.Test.YtfbanjmooknafaaLB
import Derived.Test.YtfbanjmooknafaaB3
import Derived.Test.YtfbanjmooknafaaX
namespace Go.Proofs.Ytfbanjmooknafaa
open Go.RowKit
set_option linter.unusedSimpArgs false
set_option linter.unusedVariables false
set_option maxRecDepth 100000

theorem c_DrawBitsOf (A : Option Addr) (n c : Nat) (l : List UInt8) (w : World) (hl : l.length = n) (hn : n ≤ 65536) (h : Holds w A (ub l)) : Calls Try.prog 55 #[.slice A n c] w (GaveII (-1) 1073741824 w) := by
  have hcn := cur_new (w := w) (A := A) c 102 h
  rw [hl] at hcn
  obtain ⟨W0, hW0⟩ : ∃ W0, w.alloc (.cells #[.slice A n c, .int .i64 0, .int .u64 0] 102) = W0 := ⟨_, rfl⟩
  rw [hW0] at hcn
  have HC := Lib.hid hcn
  have HL := Lib.hid (show l.length ≤ 70000 by omega)
  clear h hl hcn
  obtain ⟨g, hg⟩ : ∃ g, w.heap.size = g := ⟨_, rfl⟩
  have HGZ := Lib.hid hg
  rw [hg] at HC
  go_enter Try.func55, Try.ntmps55
  go_wp2_with fail
  have HWZ := Lib.hid hW0
  clear hW0 hg
  try rw [HGZ.out]
  have HG := Lib.hid (World.grownBy.refl W0 (some g))
  have HA := Lib.hid (holds_new W0 (vi [0, 1, 5, 200, 4095, 1048576, 1073741823, 1073741824, -1]) 3)
  have HCA := Lib.hid (HC.out.alloc (.cells (vi [0, 1, 5, 200, 4095, 1048576, 1073741823, 1073741824, -1]).toArray 3))
  have HGA := Lib.hid (grown_alloc HG.out (.cells (vi [0, 1, 5, 200, 4095, 1048576, 1073741823, 1073741824, -1]).toArray 3))
  have HNE := Lib.hid (lit_ne HC.out)
  refine (c_among _ 9 9 [0, 1, 5, 200, 4095, 1048576, 1073741823, 1073741824, -1] (-1) 1073741824 g l 0 _ rfl (by exact HA.out) (by decide) HNE.out (by exact HCA.out) (by omega) HL.out (by omega) (by omega)).mono ?_
  rintro e w1 ⟨x, x0, x1, rfl, hc1, hg1⟩
  have HC1 := Lib.hid hc1
  have HG1 := Lib.hid (only_trans HGA.out hg1)
  clear hc1 hg1 HA HCA HGA HNE
  go_wp2_with fail
  have HA := Lib.hid (holds_new w1 (vi [0, 1, 3, 8, 12, 21, 30, 31, -1]) 3)
  have HCA := Lib.hid (HC1.out.alloc (.cells (vi [0, 1, 3, 8, 12, 21, 30, 31, -1]).toArray 3))
  have HGA := Lib.hid (grown_alloc HG1.out (.cells (vi [0, 1, 3, 8, 12, 21, 30, 31, -1]).toArray 3))
  have HNE := Lib.hid (lit_ne HC1.out)
  refine (c_among _ 9 9 [0, 1, 3, 8, 12, 21, 30, 31, -1] (-1) 1073741824 g l (0 + 2) _ rfl (by exact HA.out) (by decide) HNE.out (by exact HCA.out) (by omega) HL.out (by omega) (by omega)).mono ?_
  rintro e w2 ⟨y, y0, y1, rfl, hc2, hg2⟩
  have HG2 := Lib.hid (only_trans HGA.out hg2)
  clear hc2 hg2 HA HCA HGA HNE
  have HB := Lib.hid (cur_below HWZ.out (by rw [HGZ.out]; exact HG2.out))
  go_wp2
  go_ret2
  exact ⟨x, y, ⟨x0, x1⟩, ⟨y0, y1⟩, rfl, HB.out⟩
theorem c_DrawHexOf (A : Option Addr) (n c : Nat) (l : List UInt8) (w : World) (hl : l.length = n) (hn : n ≤ 65536) (h : Holds w A (ub l)) : Calls Try.prog 59 #[.slice A n c] w (GaveS 300 w) := by
  have hcn := cur_new (w := w) (A := A) c 102 h
  rw [hl] at hcn
  obtain ⟨W0, hW0⟩ : ∃ W0, w.alloc (.cells #[.slice A n c, .int .i64 0, .int .u64 0] 102) = W0 := ⟨_, rfl⟩
  rw [hW0] at hcn
  have HC := Lib.hid hcn
  have HL := Lib.hid (show l.length ≤ 70000 by omega)
  clear h hl hcn
  obtain ⟨g, hg⟩ : ∃ g, w.heap.size = g := ⟨_, rfl⟩
  have HGZ := Lib.hid hg
  rw [hg] at HC
  go_enter Try.func59, Try.ntmps59
  go_wp2_with fail
  have HWZ := Lib.hid hW0
  clear hW0 hg
  try rw [HGZ.out]
  refine (c_anyBits 30 g l 0 _ HC.out (by omega) HL.out (by omega)).mono ?_
  rintro e w1 ⟨x, hx, rfl, hc1, hg1⟩
  have hx3 : x.length ≤ 300 := hx
  have HC1 := Lib.hid hc1
  have HG1 := Lib.hid hg1
  have hxs := bs_size x
  have hxs3 : (bs x).size ≤ 300 := by omega
  have HM := Lib.hid (show (bs x).size ≤ maxLen by unfold maxLen; omega)
  have HXS := Lib.hid hxs
  obtain ⟨o, ho⟩ : ∃ o, P.isBits x = o := ⟨_, rfl⟩
  have HO := Lib.hid (show P.isBits (B (bs x)) = o from ho)
  clear hc1 hg1 hx hxs ho
  go_wp2_with fail
  refine (c_l2Good (bs x) _ HM.out).mono ?_
  rintro e w' ⟨rfl, rfl⟩
  rw [HO.out]
  cases o with
  | false =>
    have HB := Lib.hid (cur_below HWZ.out (by rw [HGZ.out]; exact HG1.out))
    go_wp2
    go_ret
    exact ⟨x, hx3, rfl, HB.out⟩
  | true =>
    go_wp2_with fail
    refine (c_one 2 g l _ _ HC1.out (by omega) HL.out (by omega) (by omega)).mono ?_
    rintro e w5 ⟨b5, rfl, hc5, hg5⟩
    have HG5 := Lib.hid (only_trans HG1.out hg5)
    have HB := Lib.hid (cur_below HWZ.out (by rw [HGZ.out]; exact HG5.out))
    clear hc5 hg5
    cases b5 with
    | false =>
      go_wp2
      go_ret
      exact ⟨x, hx3, rfl, HB.out⟩
    | true =>
      have h0 : 0 ≤ ((bs x).size : Int) / 4 * 4 := by omega
      have h1 : ((bs x).size : Int) / 4 * 4 ≤ ((bs x).size : Int) := by omega
      have HR := Lib.hid (show (B ((bs x).extract 0 ((((bs x).size : Int) / 4 * 4)).toNat)).length ≤ 300 by rw [B_ext, List.length_take, List.length_drop, B_len]; omega)
      go_wp2
      go_ret
      exact ⟨B ((bs x).extract 0 ((((bs x).size : Int) / 4 * 4)).toNat), HR.out, rfl, HB.out⟩
/-- what a draw of a text and two numbers returns -/
def GaveSII (N : Nat) (lo hi : Int) (w : World) (e : Ending) (w' : World) : Prop := ∃ (x : List UInt8) (a b : Int), x.length ≤ N ∧ (lo ≤ a ∧ a ≤ hi) ∧ (lo ≤ b ∧ b ≤ hi) ∧ e = .returned (.tuple #[.string (bs x), .int .i64 a, .int .i64 b]) ∧ Below w.heap.size w w'
theorem c_DrawFieldOf (A : Option Addr) (n c : Nat) (l : List UInt8) (w : World) (hl : l.length = n) (hn : n ≤ 65536) (h : Holds w A (ub l)) : Calls Try.prog 65 #[.slice A n c] w (GaveSII 300 (-10) 1000 w) := by
  have hcn := cur_new (w := w) (A := A) c 102 h
  rw [hl] at hcn
  obtain ⟨W0, hW0⟩ : ∃ W0, w.alloc (.cells #[.slice A n c, .int .i64 0, .int .u64 0] 102) = W0 := ⟨_, rfl⟩
  rw [hW0] at hcn
  have HC := Lib.hid hcn
  have HL := Lib.hid (show l.length ≤ 70000 by omega)
  clear h hl hcn
  obtain ⟨g, hg⟩ : ∃ g, w.heap.size = g := ⟨_, rfl⟩
  have HGZ := Lib.hid hg
  rw [hg] at HC
  go_enter Try.func65, Try.ntmps65
  go_wp2_with fail
  have HWZ := Lib.hid hW0
  clear hW0 hg
  try rw [HGZ.out]
  refine (c_anyBits 40 g l 0 _ HC.out (by omega) HL.out (by omega)).mono ?_
  rintro e w1 ⟨x, hx, rfl, hc1, hg1⟩
  have hx3 : x.length ≤ 300 := hx
  have HC1 := Lib.hid hc1
  have HG1 := Lib.hid hg1
  have hxs := bs_size x
  have hxs3 : (bs x).size ≤ 300 := by omega
  have HXS := Lib.hid hxs
  clear hc1 hg1 hx hxs
  go_wp2_with fail
  refine (c_pick _ g l _ _ HC1.out (by omega) HL.out (by omega) (by omega)).mono ?_
  rintro e w2 ⟨y, y0, y1, rfl, hc2, hg2⟩
  have HC2 := Lib.hid hc2
  have HG2 := Lib.hid (only_trans HG1.out hg2)
  clear hc2 hg2
  go_wp2_with fail
  refine (c_pick 9 g l _ _ HC2.out (by omega) HL.out (by omega) (by omega)).mono ?_
  rintro e w3 ⟨z, z0, z1, rfl, hc3, hg3⟩
  have HC3 := Lib.hid hc3
  have HG3 := Lib.hid (only_trans HG2.out hg3)
  clear hc3 hg3
  go_wp2_with fail
  have HA := Lib.hid (holds_new w3 (vi [1, 2, 4, 8, 30, 31, 0]) 3)
  have HCA := Lib.hid (HC3.out.alloc (.cells (vi [1, 2, 4, 8, 30, 31, 0]).toArray 3))
  have HGA := Lib.hid (grown_alloc HG3.out (.cells (vi [1, 2, 4, 8, 30, 31, 0]).toArray 3))
  have HNE := Lib.hid (lit_ne HC3.out)
  refine (c_among _ 7 7 [1, 2, 4, 8, 30, 31, 0] 0 1000 g l (0 + 2000 + 2 + 2) _ rfl (by exact HA.out) (by decide) HNE.out (by exact HCA.out) (by omega) HL.out (by omega) (by omega)).mono ?_
  rintro e w4 ⟨v, v0, v1, rfl, hc4, hg4⟩
  have HG4 := Lib.hid (only_trans HGA.out hg4)
  clear hc4 hg4 HA HCA HGA HNE
  have HB := Lib.hid (cur_below HWZ.out (by rw [HGZ.out]; exact HG4.out))
  go_wp2
  go_ret3
  exact ⟨x, y - z / 8, v, hx3, ⟨by omega, by omega⟩, ⟨by omega, by omega⟩, rfl, HB.out⟩
theorem c_DrawParityOf (A : Option Addr) (n c : Nat) (l : List UInt8) (w : World) (hl : l.length = n) (hn : n ≤ 65536) (h : Holds w A (ub l)) : Calls Try.prog 28 #[.slice A n c] w (GaveS 300 w) := by
  have hcn := cur_new (w := w) (A := A) c 102 h
  rw [hl] at hcn
  obtain ⟨W0, hW0⟩ : ∃ W0, w.alloc (.cells #[.slice A n c, .int .i64 0, .int .u64 0] 102) = W0 := ⟨_, rfl⟩
  rw [hW0] at hcn
  have HC := Lib.hid hcn
  have HL := Lib.hid (show l.length ≤ 70000 by omega)
  clear h hl hcn
  obtain ⟨g, hg⟩ : ∃ g, w.heap.size = g := ⟨_, rfl⟩
  have HGZ := Lib.hid hg
  rw [hg] at HC
  go_enter Try.func28, Try.ntmps28
  go_wp2_with fail
  have HWZ := Lib.hid hW0
  clear hW0 hg
  try rw [HGZ.out]
  refine (c_anyBits 30 g l 0 _ HC.out (by omega) HL.out (by omega)).mono ?_
  rintro e w1 ⟨x, hx, rfl, hc1, hg1⟩
  have hx3 : x.length ≤ 300 := hx
  have HC1 := Lib.hid hc1
  have HG1 := Lib.hid hg1
  clear hc1 hg1 hx
  go_wp2_with fail
  refine (c_one 24 g l _ _ HC1.out (by omega) HL.out (by omega) (by omega)).mono ?_
  rintro e w5 ⟨b5, rfl, hc5, hg5⟩
  have HC5 := Lib.hid hc5
  have HG5 := Lib.hid (only_trans HG1.out hg5)
  clear hc5 hg5
  cases b5 with
  | false =>
    have HB := Lib.hid (cur_below HWZ.out (by rw [HGZ.out]; exact HG5.out))
    go_wp2
    go_ret
    exact ⟨x, hx3, rfl, HB.out⟩
  | true =>
    go_wp2
    go_loopw [4] (fun s wr => ∃ (q : Nat) (y : List UInt8), s = .string (bs y) ∧ q ≤ y.length ∧ y.length ≤ 300 ∧ Cur wr g l (2100 + 2 * q) ∧ W0.grownBy wr (some g)) (fun s _ => (52 + 1) - (strLen s))
    case atStart => exact ⟨0, x, rfl, by omega, by omega, HC5.out.mono (by omega), HG5.out⟩
    case round =>
      obtain ⟨q, y, rfl, hqy, hy3, hcr, hgr⟩ := hrel
      have HCR := Lib.hid hcr
      have HGR := Lib.hid hgr
      have hys := bs_size y
      have HYS := Lib.hid hys
      clear hcr hgr hys
      go_wp2_with fail
      refine (c_pick 2 g l (2100 + 2 * q) _ HCR.out (by omega) HL.out (by omega) (by omega)).mono ?_
      rintro e w6 ⟨p, p0, p1, rfl, hc6, hg6⟩
      have HC6 := Lib.hid hc6
      have HG6 := Lib.hid (only_trans HGR.out hg6)
      clear hc6 hg6
      by_cases hlt : ((bs y).size : Int) < 52 + p
      · have hadd : ∀ W, (Op.stringOp .add (bs y) ⟨#[48]⟩).run Try.prog W = .ok (.string (bs (y ++ [48]))) W := fun W => run_add W y [48] (by simp; omega)
        have HN := Lib.hid (show (y ++ [(48 : UInt8)]).length = y.length + 1 by simp)
        have HLT := Lib.hid (show y.length < 52 + 1 by have := HYS.out; omega)
        go_wp2
        go_roundw
        case rel => exact ⟨q + 1, y ++ [48], rfl, by rw [HN.out]; omega, by rw [HN.out]; have := HLT.out; omega, HC6.out.mono (by omega), HG6.out⟩
        case measure =>
          have h1 := HLT.out
          have h2 := bs_size (y ++ [(48 : UInt8)])
          have h3 := HN.out
          have h4 := HYS.out
          show (52 + 1) - (bs (y ++ [(48 : UInt8)])).size < (52 + 1) - (bs y).size
          omega
      · have HB := Lib.hid (cur_below HWZ.out (by rw [HGZ.out]; exact HG6.out))
        go_wp2
        go_ret
        exact ⟨y, hy3, rfl, HB.out⟩
theorem c_DrawBitsFromHex (A : Option Addr) (n c : Nat) (l : List UInt8) (w : World) (hl : l.length = n) (hn : n ≤ 65536) (h : Holds w A (ub l)) : Calls Try.prog 63 #[.slice A n c] w (GaveS 300 w) := by
  have hcn := cur_new (w := w) (A := A) c 102 h
  rw [hl] at hcn
  obtain ⟨W0, hW0⟩ : ∃ W0, w.alloc (.cells #[.slice A n c, .int .i64 0, .int .u64 0] 102) = W0 := ⟨_, rfl⟩
  rw [hW0] at hcn
  have HC := Lib.hid hcn
  have HL := Lib.hid (show l.length ≤ 70000 by omega)
  clear h hl hcn
  obtain ⟨g, hg⟩ : ∃ g, w.heap.size = g := ⟨_, rfl⟩
  have HGZ := Lib.hid hg
  rw [hg] at HC
  go_enter Try.func63, Try.ntmps63
  go_wp2_with fail
  have HWZ := Lib.hid hW0
  clear hW0 hg
  try rw [HGZ.out]
  refine (c_bits 40 g l 0 _ HC.out (by omega) HL.out (by omega)).mono ?_
  rintro e w1 ⟨x, ⟨hx, hxb⟩, rfl, hc1, hg1⟩
  have HC1 := Lib.hid hc1
  have HG1 := Lib.hid hg1
  have hxs := bs_size x
  have hxs3 : (bs x).size ≤ 40 := by omega
  have h0 : 0 ≤ ((bs x).size : Int) / 4 * 4 := by omega
  have h1 : ((bs x).size : Int) / 4 * 4 ≤ ((bs x).size : Int) := by omega
  obtain ⟨u, hu⟩ : ∃ u, (bs x).extract 0 ((((bs x).size : Int) / 4 * 4)).toNat = u := ⟨_, rfl⟩
  have hBu : B u = x.take ((((bs x).size : Int) / 4 * 4)).toNat := by rw [← hu, B_ext, B_bs, List.drop_zero, Nat.sub_zero]
  have hul : u.size = ((((bs x).size : Int) / 4 * 4)).toNat := by rw [← B_len, hBu, List.length_take]; omega
  have HUH := Lib.hid (fun W => c_l2Hex u W (by omega) (by omega) (by rw [hBu]; exact P.all_take hxb _))
  have hhl : (P.hexL (B u)).length ≤ 10 := by rw [P.hexL_len, B_len]; omega
  obtain ⟨y, hy⟩ : ∃ y, P.hexL (B u) = y := ⟨_, rfl⟩
  rw [hy] at HUH hhl
  have HXS := Lib.hid hxs
  clear hc1 hg1 hx hxs hBu hul hxb hy
  go_wp2_with fail
  refine (HUH.out _).mono ?_
  rintro e w' ⟨rfl, rfl⟩
  clear hu
  go_wp2_with fail
  refine (c_one 4 g l _ _ HC1.out (by omega) HL.out (by omega) (by omega)).mono ?_
  rintro e w3 ⟨b3, rfl, hc3, hg3⟩
  have HC3 := Lib.hid hc3
  have HG3 := Lib.hid (only_trans HG1.out hg3)
  clear hc3 hg3
  cases b3 with
  | false =>
    have hyv : y.length ≤ 12 := by omega
    go_wp2_with fail
    refine (c_one 24 g l (0 + 1000 + 2) _ HC3.out (by omega) HL.out (by omega) (by omega)).mono ?_
    rintro e w5 ⟨b5, rfl, hc5, hg5⟩
    have HC5 := Lib.hid hc5
    have HG5 := Lib.hid (only_trans HG3.out hg5)
    clear hc5 hg5
    cases b5 with
    | false =>
      have HB := Lib.hid (cur_below HWZ.out (by rw [HGZ.out]; exact HG5.out))
      go_wp2
      go_ret
      exact ⟨y, by omega, rfl, HB.out⟩
    | true =>
      go_wp2
      go_loopw [4] (fun s wr => ∃ (q : Nat) (y : List UInt8), s = .string (bs y) ∧ q ≤ y.length ∧ y.length ≤ 300 ∧ Cur wr g l (2100 + 2 * q) ∧ W0.grownBy wr (some g)) (fun s _ => (16 + 1) - (strLen s))
      case atStart => exact ⟨0, y, rfl, by omega, by omega, HC5.out.mono (by omega), HG5.out⟩
      case round =>
        obtain ⟨q, y, rfl, hqy, hy3, hcr, hgr⟩ := hrel
        have HCR := Lib.hid hcr
        have HGR := Lib.hid hgr
        have hys := bs_size y
        have HYS := Lib.hid hys
        clear hcr hgr hys
        go_wp2_with fail
        refine (c_pick 2 g l (2100 + 2 * q) _ HCR.out (by omega) HL.out (by omega) (by omega)).mono ?_
        rintro e w6 ⟨p, p0, p1, rfl, hc6, hg6⟩
        have HC6 := Lib.hid hc6
        have HG6 := Lib.hid (only_trans HGR.out hg6)
        clear hc6 hg6
        by_cases hlt : ((bs y).size : Int) < 16 + p
        · have hadd : ∀ W, (Op.stringOp .add (bs y) ⟨#[70]⟩).run Try.prog W = .ok (.string (bs (y ++ [70]))) W := fun W => run_add W y [70] (by simp; omega)
          have HN := Lib.hid (show (y ++ [(70 : UInt8)]).length = y.length + 1 by simp)
          have HLT := Lib.hid (show y.length < 16 + 1 by have := HYS.out; omega)
          go_wp2
          go_roundw
          case rel => exact ⟨q + 1, y ++ [70], rfl, by rw [HN.out]; omega, by rw [HN.out]; have := HLT.out; omega, HC6.out.mono (by omega), HG6.out⟩
          case measure =>
            have h1 := HLT.out
            have h2 := bs_size (y ++ [(70 : UInt8)])
            have h3 := HN.out
            have h4 := HYS.out
            show (16 + 1) - (bs (y ++ [(70 : UInt8)])).size < (16 + 1) - (bs y).size
            omega
        · have HB := Lib.hid (cur_below HWZ.out (by rw [HGZ.out]; exact HG6.out))
          go_wp2
          go_ret
          exact ⟨y, hy3, rfl, HB.out⟩
  | true =>
    go_wp2_with fail
    refine (c_spoilt (bs y) ⟨#[48, 65, 97, 71]⟩ g l _ _ HC3.out (by omega) HL.out (by rw [bs_size]; omega) (by decide) (by decide)).mono ?_
    rintro e w4 ⟨v, hv, rfl, hc4, hg4⟩
    have hyv : v.length ≤ 12 := by have h : v.length ≤ (bs y).size + 1 := hv; rw [bs_size] at h; omega
    have HC4 := Lib.hid hc4
    have HG4 := Lib.hid (only_trans HG3.out hg4)
    clear hc4 hg4 hv
    go_wp2_with fail
    refine (c_one 24 g l (0 + 1000 + 2 + 6) _ HC4.out (by omega) HL.out (by omega) (by omega)).mono ?_
    rintro e w5 ⟨b5, rfl, hc5, hg5⟩
    have HC5 := Lib.hid hc5
    have HG5 := Lib.hid (only_trans HG4.out hg5)
    clear hc5 hg5
    cases b5 with
    | false =>
      have HB := Lib.hid (cur_below HWZ.out (by rw [HGZ.out]; exact HG5.out))
      go_wp2
      go_ret
      exact ⟨v, by omega, rfl, HB.out⟩
    | true =>
      go_wp2
      go_loopw [4] (fun s wr => ∃ (q : Nat) (y : List UInt8), s = .string (bs y) ∧ q ≤ y.length ∧ y.length ≤ 300 ∧ Cur wr g l (2100 + 2 * q) ∧ W0.grownBy wr (some g)) (fun s _ => (16 + 1) - (strLen s))
      case atStart => exact ⟨0, v, rfl, by omega, by omega, HC5.out.mono (by omega), HG5.out⟩
      case round =>
        obtain ⟨q, y, rfl, hqy, hy3, hcr, hgr⟩ := hrel
        have HCR := Lib.hid hcr
        have HGR := Lib.hid hgr
        have hys := bs_size y
        have HYS := Lib.hid hys
        clear hcr hgr hys
        go_wp2_with fail
        refine (c_pick 2 g l (2100 + 2 * q) _ HCR.out (by omega) HL.out (by omega) (by omega)).mono ?_
        rintro e w6 ⟨p, p0, p1, rfl, hc6, hg6⟩
        have HC6 := Lib.hid hc6
        have HG6 := Lib.hid (only_trans HGR.out hg6)
        clear hc6 hg6
        by_cases hlt : ((bs y).size : Int) < 16 + p
        · have hadd : ∀ W, (Op.stringOp .add (bs y) ⟨#[70]⟩).run Try.prog W = .ok (.string (bs (y ++ [70]))) W := fun W => run_add W y [70] (by simp; omega)
          have HN := Lib.hid (show (y ++ [(70 : UInt8)]).length = y.length + 1 by simp)
          have HLT := Lib.hid (show y.length < 16 + 1 by have := HYS.out; omega)
          go_wp2
          go_roundw
          case rel => exact ⟨q + 1, y ++ [70], rfl, by rw [HN.out]; omega, by rw [HN.out]; have := HLT.out; omega, HC6.out.mono (by omega), HG6.out⟩
          case measure =>
            have h1 := HLT.out
            have h2 := bs_size (y ++ [(70 : UInt8)])
            have h3 := HN.out
            have h4 := HYS.out
            show (16 + 1) - (bs (y ++ [(70 : UInt8)])).size < (16 + 1) - (bs y).size
            omega
        · have HB := Lib.hid (cur_below HWZ.out (by rw [HGZ.out]; exact HG6.out))
          go_wp2
          go_ret
          exact ⟨y, hy3, rfl, HB.out⟩
end Go.Proofs.Ytfbanjmooknafaa
