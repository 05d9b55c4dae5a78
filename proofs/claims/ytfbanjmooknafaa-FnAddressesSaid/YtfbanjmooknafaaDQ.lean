/-
  Contracts of the draws for the laws on parities and syndromes.
-/
import Derived.Test.YtfbanjmooknafaaLB
import Derived.Test.YtfbanjmooknafaaB2
import Derived.Test.YtfbanjmooknafaaQJ
namespace Go.Proofs.Ytfbanjmooknafaa
open Go.RowKit
set_option linter.unusedSimpArgs false
set_option linter.unusedVariables false
set_option maxRecDepth 100000

set_option maxHeartbeats 1000000 in
theorem c_coded (g : Nat) (l : List UInt8) (m : Nat) (w : World) (hc : Cur w g l m) (hm : m ≤ 500000000) (hl : l.length ≤ 70000) : Calls Try.prog 209 #[.pointer (some ⟨g, 0, none⟩)] w (DrewStr (AtMost 300) g l (m + 2000) w) := by
  have HC := Lib.hid hc
  have HL := Lib.hid hl
  clear hc
  go_enter Try.func209, Try.ntmps209
  go_wp2_with fail
  refine (c_bits 30 g l m _ HC.out (by omega) hl (by omega)).mono ?_
  rintro e w1 ⟨x, ⟨hx, hxb⟩, rfl, hc1, hg1⟩
  have HC1 := Lib.hid hc1
  have HG1 := Lib.hid hg1
  have hadd4 := fun W => c_l4Add (bs x) W (by rw [bs_size]; omega)
  obtain ⟨y, hy⟩ : ∃ y, B (bs x) ++ P.bitsL (P.parN (B (bs x))) 12 = y := ⟨_, rfl⟩
  rw [hy] at hadd4
  have hyl : y.length = x.length + 12 := by rw [← hy, List.length_append, P.bitsL_len, B_bs]
  have hyb : y.all P.bitB = true := by rw [← hy, B_bs, List.all_append, hxb, P.bitsL_bits]; rfl
  have HA4 := Lib.hid hadd4
  have HYB := Lib.hid hyb
  have hy1 : 12 ≤ y.length := by omega
  have hy2 : y.length ≤ 42 := by omega
  clear hc1 hg1 hx hxb hy hadd4 hyb hyl
  go_wp2_with fail
  refine (HA4.out _).mono ?_
  rintro e w' ⟨rfl, rfl⟩
  go_wp2_with fail
  have HA := Lib.hid (holds_new w1 (vi [0, 0, 1, 1, 1, 2, 2, 3]) 3)
  have HCA := Lib.hid (HC1.out.alloc (.cells (vi [0, 0, 1, 1, 1, 2, 2, 3]).toArray 3))
  have HGA := Lib.hid (grown_alloc HG1.out (.cells (vi [0, 0, 1, 1, 1, 2, 2, 3]).toArray 3))
  have HNE := Lib.hid (lit_ne HC1.out)
  refine (c_among _ 8 8 [0, 0, 1, 1, 1, 2, 2, 3] 0 3 g l (m + 1000) _ rfl (by exact HA.out) (by decide) HNE.out (by exact HCA.out) (by omega) HL.out (by omega) (by omega)).mono ?_
  rintro e w2 ⟨k, k0, k1, rfl, hc2, hg2⟩
  have HC2 := Lib.hid hc2
  have HG2 := Lib.hid (only_trans HGA.out hg2)
  obtain ⟨k, rfl⟩ : ∃ k' : Nat, k = (k' : Int) := ⟨k.toNat, by omega⟩
  clear hc2 hg2 HA HCA HGA HNE
  go_wp2
  go_loopw [3, 4] (fun s i wr => ∃ (j : Nat) (y : List UInt8), j ≤ k ∧ i = .int .i64 j ∧ s = .string (bs y) ∧ 12 ≤ y.length ∧ y.length ≤ 42 ∧ y.all P.bitB = true ∧ Cur wr g l (m + 1002 + 2 * (k - j)) ∧ w.grownBy wr (some g)) (fun _ i _ => (intOf i).toNat)
  case atStart => exact ⟨k, y, Nat.le_refl _, rfl, rfl, hy1, hy2, HYB.out, HC2.out.mono (by omega), HG2.out⟩
  case round =>
    clear hy1 hy2 HYB HC2 HG2
    obtain ⟨j, z, hj, rfl, rfl, hz1, hz2, hzb, hcr, hgr⟩ := hrel
    have HCR := Lib.hid hcr
    have HGR := Lib.hid hgr
    have HZB := Lib.hid hzb
    have hzs := bs_size z
    clear hcr hgr hzb
    by_cases hlt : 0 < j
    · go_wp2_with fail
      refine (c_pick _ g l _ _ HCR.out (by omega) hl (by omega) (by omega)).mono ?_
      rintro e w4 ⟨p, p0, p1, rfl, hc4, hg4⟩
      have HC4 := Lib.hid hc4
      have HG4 := Lib.hid (only_trans HGR.out hg4)
      obtain ⟨p, rfl⟩ : ∃ p' : Nat, p = (p' : Int) := ⟨p.toNat, by omega⟩
      have hfl := P.flipL_len z p
      have hfb := P.flipL_bits HZB.out p
      have HFL := Lib.hid hfl
      have HFB := Lib.hid hfb
      clear hc4 hg4 hfl hfb
      go_wp2_with fail
      refine (c_l2Flip (bs z) p _ (by omega) (by omega) HZB.out).mono ?_
      rintro e w5 ⟨rfl, hq5⟩
      have HC5 := Lib.hid (HC4.out.below (hq5.below _))
      have HG5 := Lib.hid (only_grown HG4.out (hq5.below _))
      obtain ⟨q5, rfl⟩ := hq5
      go_wp2
      go_roundw
      case rel => exact ⟨j - 1, P.flipL (B (bs z)) p, by omega, by go_num, rfl, by rw [B_bs, HFL.out]; exact hz1, by rw [B_bs, HFL.out]; exact hz2, by rw [B_bs]; exact HFB.out, HC5.out.mono (by omega), HG5.out⟩
      case measure => simp [intOf]; omega
    · have hk3 : m + 1002 + 2 * (k - j) ≤ m + 1008 := by omega
      have HC3 := Lib.hid (HCR.out.mono hk3)
      go_wp2_with fail
      refine (c_pick 24 g l _ _ HC3.out (by omega) hl (by omega) (by omega)).mono ?_
      rintro e w6 ⟨p, p0, p1, rfl, hc6, hg6⟩
      have HC6 := Lib.hid hc6
      have HG6 := Lib.hid (only_trans HGR.out hg6)
      clear hc6 hg6
      by_cases h0 : p = 0
      · subst h0
        go_wp2_with fail
        refine (c_pick 13 g l _ _ HC6.out (by omega) hl (by omega) (by omega)).mono ?_
        rintro e w7 ⟨q, q0, q1, rfl, hc7, hg7⟩
        have HC7 := Lib.hid hc7
        have HG7 := Lib.hid (only_trans HG6.out hg7)
        clear hc7 hg7
        have hqs : q ≤ ((bs z).size : Int) := by omega
        have HR := Lib.hid (show (B ((bs z).extract 0 q.toNat)).length ≤ 300 by rw [B_ext, List.length_take, List.length_drop, B_len]; omega)
        go_wp2
        go_ret
        exact ⟨B ((bs z).extract 0 q.toNat), HR.out, rfl, HC7.out.mono (by omega), HG7.out⟩
      · by_cases h1 : p = 1
        · subst h1
          go_wp2_with fail
          refine (c_spoilt (bs z) ⟨#[48, 49, 50]⟩ g l _ _ HC6.out (by omega) hl (by omega) (by decide) (by decide)).mono ?_
          rintro e w7 ⟨v, hv, rfl, hc7, hg7⟩
          have hv3 : v.length ≤ 300 := by have h : v.length ≤ (bs z).size + 1 := hv; omega
          have HC7 := Lib.hid hc7
          have HG7 := Lib.hid (only_trans HG6.out hg7)
          clear hc7 hg7 hv
          go_wp2
          go_ret
          exact ⟨v, hv3, rfl, HC7.out.mono (by omega), HG7.out⟩
        · by_cases h2 : p = 2
          · subst h2
            go_wp2
            go_loopw [3] (fun s wr => ∃ (q : Nat) (y : List UInt8), s = .string (bs y) ∧ q ≤ y.length ∧ y.length ≤ 300 ∧ Cur wr g l (m + 1010 + 2 * q) ∧ w.grownBy wr (some g)) (fun s _ => 66 - (strLen s))
            case atStart => exact ⟨0, z, rfl, by omega, by omega, HC6.out.mono (by omega), HG6.out⟩
            case round =>
              obtain ⟨q, y, rfl, hqy, hy3, hcr, hgr⟩ := hrel
              clear HC6 HG6 HCR HGR
              have HCR := Lib.hid hcr
              have HGR := Lib.hid hgr
              have hys := bs_size y
              have HYS := Lib.hid hys
              clear hcr hgr hys
              go_wp2_with fail
              refine (c_pick 2 g l (m + 1010 + 2 * q) _ HCR.out (by omega) hl (by omega) (by omega)).mono ?_
              rintro e w8 ⟨p, p0, p1, rfl, hc8, hg8⟩
              have HC8 := Lib.hid hc8
              have HG8 := Lib.hid (only_trans HGR.out hg8)
              clear hc8 hg8
              by_cases hlt : ((bs y).size : Int) < 64 + p
              · have hadd : ∀ W, (Op.stringOp .add ⟨#[48]⟩ (bs y)).run Try.prog W = .ok (.string (bs ([48] ++ y))) W := fun W => run_add W [48] y (by simp; omega)
                have HN := Lib.hid (show ([(48 : UInt8)] ++ y).length = y.length + 1 by simp)
                have HLT := Lib.hid (show y.length < 65 by have := HYS.out; omega)
                go_wp2
                go_roundw
                case rel => exact ⟨q + 1, [48] ++ y, rfl, by rw [HN.out]; omega, by rw [HN.out]; have := HLT.out; omega, HC8.out.mono (by omega), HG8.out⟩
                case measure =>
                  have h1 := HLT.out
                  have h2 := bs_size ([(48 : UInt8)] ++ y)
                  have h3 := HN.out
                  have h4 := HYS.out
                  show 66 - (bs ([(48 : UInt8)] ++ y)).size < 66 - (bs y).size
                  omega
              · have hy65 : y.length ≤ 300 := hy3
                have HX := Lib.hid (HC8.out.mono (m' := m + 2000) (by omega))
                go_wp2
                go_ret
                exact ⟨y, hy3, rfl, HX.out, HG8.out⟩
          · have hz3 : z.length ≤ 300 := by omega
            go_wp2
            go_ret
            exact ⟨z, hz3, rfl, HC6.out.mono (by omega), HG6.out⟩
theorem c_DrawIsSound (A : Option Addr) (n c : Nat) (l : List UInt8) (w : World) (hl : l.length = n) (hn : n ≤ 65536) (h : Holds w A (ub l)) : Calls Try.prog 131 #[.slice A n c] w (GaveS 300 w) := by
  have hcn := cur_new (w := w) (A := A) c 102 h
  rw [hl] at hcn
  obtain ⟨W0, hW0⟩ : ∃ W0, w.alloc (.cells #[.slice A n c, .int .i64 0, .int .u64 0] 102) = W0 := ⟨_, rfl⟩
  rw [hW0] at hcn
  have HC := Lib.hid hcn
  have HL := Lib.hid (show l.length ≤ 70000 by omega)
  clear h hl hcn
  obtain ⟨g, hg⟩ : ∃ g, w.heap.size = g := ⟨_, rfl⟩
  have HGZ := Lib.hid hg
  rw [hg] at HC
  go_enter Try.func131, Try.ntmps131
  go_wp2_with fail
  have HWZ := Lib.hid hW0
  clear hW0 hg
  try rw [HGZ.out]
  refine (c_coded g l 0 _ HC.out (by omega) HL.out).mono ?_
  rintro e w1 ⟨x, hx, rfl, hc1, hg1⟩
  have hx3 : x.length ≤ 300 := hx
  have HB := Lib.hid (cur_below HWZ.out (by rw [HGZ.out]; exact hg1))
  clear hc1 hg1 hx
  go_wp2
  go_ret
  exact ⟨x, hx3, rfl, HB.out⟩
theorem c_DrawRepairBit (A : Option Addr) (n c : Nat) (l : List UInt8) (w : World) (hl : l.length = n) (hn : n ≤ 65536) (h : Holds w A (ub l)) : Calls Try.prog 74 #[.slice A n c] w (GaveS 300 w) := by
  go_enter Try.func74, Try.ntmps74
  go_wp2_with fail
  refine (c_DrawIsSound A n c l _ hl hn h).mono ?_
  rintro e w1 ⟨x, hx, rfl, hb1⟩
  go_wp2
  go_ret
  exact ⟨x, hx, rfl, hb1⟩
theorem c_DrawSyndromeOf (A : Option Addr) (n c : Nat) (l : List UInt8) (w : World) (hl : l.length = n) (hn : n ≤ 65536) (h : Holds w A (ub l)) : Calls Try.prog 16 #[.slice A n c] w (GaveS 300 w) := by
  go_enter Try.func16, Try.ntmps16
  go_wp2_with fail
  refine (c_DrawIsSound A n c l _ hl hn h).mono ?_
  rintro e w1 ⟨x, hx, rfl, hb1⟩
  go_wp2
  go_ret
  exact ⟨x, hx, rfl, hb1⟩
theorem c_DrawPatternOf (A : Option Addr) (n c : Nat) (l : List UInt8) (w : World) (hl : l.length = n) (hn : n ≤ 65536) (h : Holds w A (ub l)) : Calls Try.prog 26 #[.slice A n c] w (GaveII (-1) 70 w) := by
  have hcn := cur_new (w := w) (A := A) c 102 h
  rw [hl] at hcn
  obtain ⟨W0, hW0⟩ : ∃ W0, w.alloc (.cells #[.slice A n c, .int .i64 0, .int .u64 0] 102) = W0 := ⟨_, rfl⟩
  rw [hW0] at hcn
  have HC := Lib.hid hcn
  have HL := Lib.hid (show l.length ≤ 70000 by omega)
  clear h hl hcn
  obtain ⟨g, hg⟩ : ∃ g, w.heap.size = g := ⟨_, rfl⟩
  have HGZ := Lib.hid hg
  rw [hg] at HC
  go_enter Try.func26, Try.ntmps26
  go_wp2_with fail
  have HWZ := Lib.hid hW0
  clear hW0 hg
  try rw [HGZ.out]
  have HG := Lib.hid (World.grownBy.refl W0 (some g))
  have HA := Lib.hid (holds_new W0 (vi [12, 20, 44, 56, 64, 11, 65]) 3)
  have HCA := Lib.hid (HC.out.alloc (.cells (vi [12, 20, 44, 56, 64, 11, 65]).toArray 3))
  have HGA := Lib.hid (grown_alloc HG.out (.cells (vi [12, 20, 44, 56, 64, 11, 65]).toArray 3))
  have HNE := Lib.hid (lit_ne HC.out)
  refine (c_among _ 7 7 [12, 20, 44, 56, 64, 11, 65] 11 65 g l 0 _ rfl (by exact HA.out) (by decide) HNE.out (by exact HCA.out) (by omega) HL.out (by omega) (by omega)).mono ?_
  rintro e w1 ⟨x, x0, x1, rfl, hc1, hg1⟩
  have HC1 := Lib.hid hc1
  have HG1 := Lib.hid (only_trans HGA.out hg1)
  clear hc1 hg1 HA HCA HGA HNE
  go_wp2_with fail
  refine (c_pick _ g l _ _ HC1.out (by omega) HL.out (by omega) (by omega)).mono ?_
  rintro e w2 ⟨y, y0, y1, rfl, hc2, hg2⟩
  have HB := Lib.hid (cur_below HWZ.out (by rw [HGZ.out]; exact only_trans HG1.out hg2))
  clear hc2 hg2
  go_wp2
  go_ret2
  exact ⟨x, y - 1, ⟨by omega, by omega⟩, ⟨by omega, by omega⟩, rfl, HB.out⟩
end Go.Proofs.Ytfbanjmooknafaa
