/-
  Contracts of the draws for the law on frames.
-/
import Derived.Test.YtfbanjmooknafaaDH
import Derived.Test.YtfbanjmooknafaaE5
import Derived.Test.YtfbanjmooknafaaFT
import Derived.Test.YtfbanjmooknafaaB2
import Derived.Test.YtfbanjmooknafaaQJ
namespace Go.Proofs.Ytfbanjmooknafaa
open Go.RowKit
set_option linter.unusedSimpArgs false
set_option linter.unusedVariables false
set_option maxRecDepth 100000

theorem NearFr.mk {a b c : Int} (h : NearFr a b c) : ((0 ≤ a ∧ a ≤ 5) ∧ (0 ≤ b ∧ b ≤ 65536) ∧ (-1 ≤ c ∧ c ≤ 16777216)) := h
theorem c_DrawIsValidFrame (A : Option Addr) (n c : Nat) (l : List UInt8) (w : World) (hl : l.length = n) (hn : n ≤ 65536) (h : Holds w A (ub l)) : Calls Try.prog 197 #[.slice A n c] w (GaveFr w) := by
  have hB := (Below.refl w.heap.size w).alloc (Nat.le_refl _) (.cells #[.int .i64 0, .int .i64 0, .int .i64 0] 57)
  have hX := Box.new w 0 0 0 57
  obtain ⟨W1, hW1⟩ : ∃ W1, w.alloc (.cells #[.int .i64 0, .int .i64 0, .int .i64 0] 57) = W1 := ⟨_, rfl⟩
  have hs1 : W1.heap.size = w.heap.size + 1 := by rw [← hW1]; simp
  rw [hW1] at hB hX
  have hcn := cur_new (w := W1) (A := A) c 102 (holds_belowU h hB)
  rw [hl] at hcn
  have hX0 := hX.below ((Below.refl W1.heap.size W1).alloc (Nat.le_refl _) (.cells #[.slice A n c, .int .i64 0, .int .u64 0] 102))
  have hB0 := hB.alloc (by omega) (.cells #[.slice A n c, .int .i64 0, .int .u64 0] 102)
  obtain ⟨W0, hW0⟩ : ∃ W0, W1.alloc (.cells #[.slice A n c, .int .i64 0, .int .u64 0] 102) = W0 := ⟨_, rfl⟩
  rw [hW0] at hcn hX0 hB0
  have HC := Lib.hid hcn
  have HX := Lib.hid hX0
  have HB := Lib.hid hB0
  have HL := Lib.hid (show l.length ≤ 70000 by omega)
  clear h hl hcn hB hX hX0 hB0
  go_enter Try.func197, Try.ntmps197
  go_wp2_with fail
  clear hW0 hW1
  try rw [hs1]
  rw [hs1] at HC
  refine (c_anyFrame _ l 0 _ HC.out (by omega) HL.out).mono ?_
  rintro e w1 ⟨x, y, z, hn, rfl, hc1, hg1⟩
  obtain ⟨⟨k0, k1, k2⟩, f0, f1, f2⟩ := HX.out.grown (by omega) hg1
  have HB1 := Lib.hid (HB.out.grown hg1 HB.out.size (fun k hk => by injection hk with hk; omega))
  have HN := Lib.hid hn
  clear hc1 hg1 hn
  go_wp2
  exact bodyPost_ret (v := .agg #[.int .i64 x, .int .i64 y, .int .i64 z]) (by simp [results, Try.results197, go_sem, k0, k1, k2]) rfl ⟨x, y, z, HN.out, rfl, ((HB1.out.setCell (Nat.le_refl _) _).setCell (Nat.le_refl _) _).setCell (Nat.le_refl _) _⟩
theorem c_DrawEncodeFrame (A : Option Addr) (n c : Nat) (l : List UInt8) (w : World) (hl : l.length = n) (hn : n ≤ 65536) (h : Holds w A (ub l)) : Calls Try.prog 112 #[.slice A n c] w (GaveFr w) := by
  have hB := (Below.refl w.heap.size w).alloc (Nat.le_refl _) (.cells #[.int .i64 0, .int .i64 0, .int .i64 0] 57)
  have hX := Box.new w 0 0 0 57
  obtain ⟨W1, hW1⟩ : ∃ W1, w.alloc (.cells #[.int .i64 0, .int .i64 0, .int .i64 0] 57) = W1 := ⟨_, rfl⟩
  rw [hW1] at hB hX
  have HH := Lib.hid (holds_belowU h hB)
  have HX := Lib.hid hX
  have HB := Lib.hid hB
  have HL := Lib.hid hl
  clear h hl hB hX
  go_enter Try.func112, Try.ntmps112
  go_wp2_with fail
  clear hW1
  refine (c_DrawIsValidFrame A n c l _ HL.out hn HH.out).mono ?_
  rintro e w1 ⟨x, y, z, hn, rfl, hb1⟩
  obtain ⟨⟨k0, k1, k2⟩, f0, f1, f2⟩ := HX.out.below hb1
  have HB1 := Lib.hid (HB.out.trans (hb1.mono HB.out.size))
  have HN := Lib.hid hn
  clear hb1 hn
  go_wp2
  exact bodyPost_ret (v := .agg #[.int .i64 x, .int .i64 y, .int .i64 z]) (by simp [results, Try.results112, go_sem, k0, k1, k2]) rfl ⟨x, y, z, HN.out, rfl, ((HB1.out.setCell (Nat.le_refl _) _).setCell (Nat.le_refl _) _).setCell (Nat.le_refl _) _⟩
theorem c_DrawParseFrameText (A : Option Addr) (n c : Nat) (l : List UInt8) (w : World) (hl : l.length = n) (hn : n ≤ 65536) (h : Holds w A (ub l)) : Calls Try.prog 122 #[.slice A n c] w (GaveS 300 w) := by
  have hcn := cur_new (w := w) (A := A) c 102 h
  rw [hl] at hcn
  obtain ⟨W0, hW0⟩ : ∃ W0, w.alloc (.cells #[.slice A n c, .int .i64 0, .int .u64 0] 102) = W0 := ⟨_, rfl⟩
  rw [hW0] at hcn
  have HC := Lib.hid hcn
  have HL := Lib.hid (show l.length ≤ 70000 by omega)
  clear h hl hcn
  obtain ⟨g, hg⟩ : ∃ g, w.heap.size = g := ⟨_, rfl⟩
  have HGZ := Lib.hid hg
  rw [hg] at HC
  go_enter Try.func122, Try.ntmps122
  go_wp2_with fail
  have HWZ := Lib.hid hW0
  clear hW0 hg
  try rw [HGZ.out]
  refine (c_frame g l 0 _ HC.out (by omega) HL.out).mono ?_
  rintro e w1 ⟨x, y, z, ⟨⟨x0, x1⟩, ⟨y0, y1⟩, z0, z1⟩, rfl, hc1, hg1⟩
  obtain ⟨x, rfl⟩ : ∃ k : Nat, x = (k : Int) := ⟨x.toNat, by omega⟩
  obtain ⟨y, rfl⟩ : ∃ k : Nat, y = (k : Int) := ⟨y.toNat, by omega⟩
  obtain ⟨z, rfl⟩ : ∃ k : Nat, z = (k : Int) := ⟨z.toNat, by omega⟩
  have HC1 := Lib.hid hc1
  have HG1 := Lib.hid hg1
  clear hc1 hg1
  go_wp2_with fail
  refine (c_l5Text x y z _ (by omega) (by omega) (by omega) (by omega)).mono ?_
  rintro e w2 ⟨rfl, hb2⟩
  have HC2 := Lib.hid (HC1.out.below hb2)
  have HG2 := Lib.hid (only_grown HG1.out hb2)
  have hlen : (P.ftR x y z).length ≤ 30 := by
    unfold P.ftR
    rw [List.length_append, List.length_append, List.length_append, List.length_append, P.hex16, P.hex24]
    have := P.kW_len x
    simp; omega
  obtain ⟨t, ht⟩ : ∃ t, P.ftR x y z = t := ⟨_, rfl⟩
  rw [ht] at hlen ⊢
  have hts := bs_size t
  clear hb2 ht HC1 HG1
  go_wp2_with fail
  refine (c_one 4 g l _ _ HC2.out (by omega) HL.out (by omega) (by omega)).mono ?_
  rintro e w3 ⟨b3, rfl, hc3, hg3⟩
  have HC3 := Lib.hid hc3
  have HG3 := Lib.hid (only_trans HG2.out hg3)
  clear hc3 hg3
  cases b3 with
  | false =>
    have hx3 : t.length ≤ 300 := by omega
    have HB := Lib.hid (cur_below HWZ.out (by rw [HGZ.out]; exact HG3.out))
    go_wp2
    go_ret
    exact ⟨t, hx3, rfl, HB.out⟩
  | true =>
    go_wp2_with fail
    refine (c_spoilt (bs t) ⟨#[48, 32, 97, 70]⟩ g l _ _ HC3.out (by omega) HL.out (by omega) (by decide) (by decide)).mono ?_
    rintro e w4 ⟨v, hv, rfl, hc4, hg4⟩
    have hv3 : v.length ≤ 300 := by have h : v.length ≤ (bs t).size + 1 := hv; omega
    have HB := Lib.hid (cur_below HWZ.out (by rw [HGZ.out]; exact only_trans HG3.out hg4))
    clear hc4 hg4 hv
    go_wp2
    go_ret
    exact ⟨v, hv3, rfl, HB.out⟩
theorem c_l2Hex_56 (x : List UInt8) (w : World) (hs : x.length = 56) (hb : x.all P.bitB = true) : Calls Try.prog 169 #[.string (bs x)] w fun e w' => ∃ y : List UInt8, y.length = 14 ∧ e = .returned (.string (bs y)) ∧ w = w' :=
  (c_l2Hex_l x w (by omega) (by omega) hb).mono (fun e w' ⟨a, b⟩ => ⟨P.hexL x, by rw [P.hexL_len, hs], a, b⟩)
theorem c_l4Add_44 (x : List UInt8) (w : World) (hs : x.length = 44) (hb : x.all P.bitB = true) : Calls Try.prog 174 #[.string (bs x)] w fun e w' => ∃ y : List UInt8, (y.length = 56 ∧ y.all P.bitB = true) ∧ e = .returned (.string (bs y)) ∧ w = w' :=
  (c_l4Add (bs x) w (by rw [bs_size]; omega)).mono (fun e w' ⟨a, b⟩ => ⟨B (bs x) ++ P.bitsL (P.parN (B (bs x))) 12, ⟨by rw [List.length_append, P.bitsL_len, B_bs, hs], by rw [B_bs, List.all_append, hb, P.bitsL_bits]; rfl⟩, a, b⟩)
theorem c_l2Of_n (k wd : Nat) (i : Int) (w : World) (hn : k ≤ 1073741823) (hwd : wd ≤ 64) (hi : i = (wd : Int)) : Calls Try.prog 135 #[.int .i64 k, .int .i64 i] w fun e w' => ∃ y : List UInt8, (y.length = wd ∧ y.all P.bitB = true) ∧ e = .returned (.string (bs y)) ∧ w = w' :=
  (c_l2Of_w k wd i w hn hwd hi).mono (fun e w' ⟨a, b⟩ => ⟨P.bitsL k wd, ⟨P.bitsL_len _ _, P.bitsL_bits _ _⟩, a, b⟩)
set_option maxHeartbeats 2000000 in
theorem c_DrawDecodeFrame (A : Option Addr) (n c : Nat) (l : List UInt8) (w : World) (hl : l.length = n) (hn : n ≤ 65536) (h : Holds w A (ub l)) : Calls Try.prog 202 #[.slice A n c] w (GaveS 300 w) := by
  have hcn := cur_new (w := w) (A := A) c 102 h
  rw [hl] at hcn
  obtain ⟨W0, hW0⟩ : ∃ W0, w.alloc (.cells #[.slice A n c, .int .i64 0, .int .u64 0] 102) = W0 := ⟨_, rfl⟩
  rw [hW0] at hcn
  have HC := Lib.hid hcn
  have HL := Lib.hid (show l.length ≤ 70000 by omega)
  clear h hl hcn
  obtain ⟨g, hg⟩ : ∃ g, w.heap.size = g := ⟨_, rfl⟩
  have HGZ := Lib.hid hg
  rw [hg] at HC
  go_enter Try.func202, Try.ntmps202
  go_wp2_with fail
  have HWZ := Lib.hid hW0
  clear hW0 hg
  try rw [HGZ.out]
  refine (c_frame g l 0 _ HC.out (by omega) HL.out).mono ?_
  rintro e w1 ⟨x, y, z, ⟨⟨x0, x1⟩, ⟨y0, y1⟩, z0, z1⟩, rfl, hc1, hg1⟩
  obtain ⟨x, rfl⟩ : ∃ k : Nat, x = (k : Int) := ⟨x.toNat, by omega⟩
  obtain ⟨y, rfl⟩ : ∃ k : Nat, y = (k : Int) := ⟨y.toNat, by omega⟩
  obtain ⟨z, rfl⟩ : ∃ k : Nat, z = (k : Int) := ⟨z.toNat, by omega⟩
  have HC1 := Lib.hid hc1
  have HG1 := Lib.hid hg1
  clear hc1 hg1
  go_wp2_with fail
  refine (c_l5Bits x y z _ (by omega) (by omega) (by omega)).mono ?_
  rintro e w2 ⟨rfl, hb2⟩
  have HC2 := Lib.hid (HC1.out.below hb2)
  have HG2 := Lib.hid (only_grown HG1.out hb2)
  have hfl := fmL_len x y z
  have hfb := fmL_bits x y z
  obtain ⟨t, ht⟩ : ∃ t, fmL x y z = t := ⟨_, rfl⟩
  rw [ht] at hfl hfb ⊢
  have HFL := Lib.hid hfl
  have HFB := Lib.hid hfb
  clear hb2 ht HC1 HG1 hfl hfb
  go_wp2_with fail
  have HA := Lib.hid (holds_new w2 (vi [0, 0, 1, 2]) 3)
  have HCA := Lib.hid (HC2.out.alloc (.cells (vi [0, 0, 1, 2]).toArray 3))
  have HGA := Lib.hid (grown_alloc HG2.out (.cells (vi [0, 0, 1, 2]).toArray 3))
  have HNE := Lib.hid (lit_ne HC2.out)
  refine (c_among _ 4 4 [0, 0, 1, 2] 0 2 g l (0 + 10) _ rfl (by exact HA.out) (by decide) HNE.out (by exact HCA.out) (by omega) HL.out (by omega) (by omega)).mono ?_
  rintro e w3 ⟨k, k0, k1, rfl, hc3, hg3⟩
  have HC3 := Lib.hid hc3
  have HG3 := Lib.hid (only_trans HGA.out hg3)
  obtain ⟨k, rfl⟩ : ∃ k' : Nat, k = (k' : Int) := ⟨k.toNat, by omega⟩
  clear hc3 hg3 HA HCA HGA HNE HC2 HG2
  go_wp2
  go_loopw [4, 5] (fun s i wr => ∃ (j : Nat) (y : List UInt8), j ≤ k ∧ i = .int .i64 j ∧ s = .string (bs y) ∧ y.length = 56 ∧ y.all P.bitB = true ∧ Cur wr g l (12 + 2 * (k - j)) ∧ W0.grownBy wr (some g)) (fun _ i _ => (intOf i).toNat)
  case atStart => exact ⟨k, t, Nat.le_refl _, rfl, rfl, HFL.out, HFB.out, HC3.out.mono (by omega), HG3.out⟩
  case round =>
    clear HC3 HG3 HFL HFB
    obtain ⟨j, y, hj, rfl, rfl, hy, hyb, hcr, hgr⟩ := hrel
    have HCR := Lib.hid hcr
    have HGR := Lib.hid hgr
    have HY := Lib.hid hy
    have HYB := Lib.hid hyb
    clear hcr hgr hyb hy
    by_cases hlt : 0 < j
    · go_wp2_with fail
      refine (c_pick 56 g l _ _ HCR.out (by omega) HL.out (by omega) (by omega)).mono ?_
      rintro e w4 ⟨p, p0, p1, rfl, hc4, hg4⟩
      have HC4 := Lib.hid hc4
      have HG4 := Lib.hid (only_trans HGR.out hg4)
      obtain ⟨p, rfl⟩ : ∃ p' : Nat, p = (p' : Int) := ⟨p.toNat, by omega⟩
      have HFL := Lib.hid (P.flipL_len y p)
      have HFB := Lib.hid (P.flipL_bits HYB.out p)
      clear hc4 hg4
      go_wp2_with fail
      refine (c_l2Flip (bs y) p _ (by rw [bs_size, HY.out]; omega) (by rw [bs_size, HY.out]; omega) HYB.out).mono ?_
      rintro e w5 ⟨rfl, hq5⟩
      have HC5 := Lib.hid (HC4.out.below (hq5.below _))
      have HG5 := Lib.hid (only_grown HG4.out (hq5.below _))
      obtain ⟨q5, rfl⟩ := hq5
      go_wp2
      go_roundw
      case rel => exact ⟨j - 1, P.flipL (B (bs y)) p, by omega, by go_num, rfl, by rw [B_bs, HFL.out]; exact HY.out, by rw [B_bs]; exact HFB.out, HC5.out.mono (by omega), HG5.out⟩
      case measure => simp [intOf]; omega
    · have hk3 : 12 + 2 * (k - j) ≤ 20 := by omega
      have HC3 := Lib.hid (HCR.out.mono hk3)
      go_wp2_with fail
      refine (c_l2Hex_56 y _ HY.out HYB.out).mono ?_
      rintro e w' ⟨u, hu, rfl, rfl⟩
      have hus := bs_size u
      go_wp2_with fail
      refine (c_pick 16 g l _ _ HC3.out (by omega) HL.out (by omega) (by omega)).mono ?_
      rintro e w6 ⟨p, p0, p1, rfl, hc6, hg6⟩
      have HC6 := Lib.hid hc6
      have HG6 := Lib.hid (only_trans HGR.out hg6)
      clear hc6 hg6
      by_cases h0 : p = 0
      · subst h0
        go_wp2_with fail
        refine (c_spoilt (bs u) ⟨#[48, 97, 71]⟩ g l _ _ HC6.out (by omega) HL.out (by omega) (by decide) (by decide)).mono ?_
        rintro e w7 ⟨v, hv, rfl, hc7, hg7⟩
        have hv3 : v.length ≤ 300 := by have h : v.length ≤ (bs u).size + 1 := hv; omega
        have HB := Lib.hid (cur_below HWZ.out (by rw [HGZ.out]; exact only_trans HG6.out hg7))
        clear hc7 hg7 hv
        go_wp2
        go_ret
        exact ⟨v, hv3, rfl, HB.out⟩
      · by_cases h1 : p = 1
        · subst h1
          clear hus
          go_wp2_with fail
          have HA := Lib.hid (holds_new w6 (vi [0, 5, 15, 1]) 3)
          have HCA := Lib.hid (HC6.out.alloc (.cells (vi [0, 5, 15, 1]).toArray 3))
          have HGA := Lib.hid (grown_alloc HG6.out (.cells (vi [0, 5, 15, 1]).toArray 3))
          have HNE := Lib.hid (lit_ne HC6.out)
          refine (c_among _ 4 4 [0, 5, 15, 1] 0 15 g l (20 + 2) _ rfl (by exact HA.out) (by decide) HNE.out (by exact HCA.out) (by omega) HL.out (by omega) (by omega)).mono ?_
          rintro e w7 ⟨v, v0, v1, rfl, hc7, hg7⟩
          have HC7 := Lib.hid hc7
          have HG7 := Lib.hid (only_trans HGA.out hg7)
          obtain ⟨v, rfl⟩ : ∃ p' : Nat, v = (p' : Int) := ⟨v.toNat, by omega⟩
          clear hc7 hg7 HA HCA HGA HNE
          go_wp2_with fail
          refine (c_l2Of_n v 4 _ _ (by omega) (by omega) (by rfl)).mono ?_
          rintro e w' ⟨s1, ⟨l1, b1⟩, rfl, rfl⟩
          have B1 := Lib.hid b1
          clear b1
          go_wp2_with fail
          refine (c_pick 2 g l _ _ HC7.out (by omega) HL.out (by omega) (by omega)).mono ?_
          rintro e w8 ⟨q, q0, q1, rfl, hc8, hg8⟩
          have HB := Lib.hid (cur_below HWZ.out (by rw [HGZ.out]; exact only_trans HG7.out hg8))
          obtain ⟨q, rfl⟩ : ∃ p' : Nat, q = (p' : Int) := ⟨q.toNat, by omega⟩
          clear hc8 hg8
          go_wp2_with fail
          refine (c_l2Of_n q 16 _ _ (by omega) (by omega) (by rfl)).mono ?_
          rintro e w' ⟨s2, ⟨l2, b2⟩, rfl, rfl⟩
          have B2 := Lib.hid b2
          obtain ⟨s12, h12⟩ : ∃ s12, s1 ++ s2 = s12 := ⟨_, rfl⟩
          have hadd1 : ∀ W, (Op.stringOp .add (bs s1) (bs s2)).run Try.prog W = .ok (.string (bs s12)) W := fun W => by rw [← h12]; exact run_add W s1 s2 (by omega)
          have l12 : s12.length = 20 := by rw [← h12, List.length_append]; omega
          have B12 := Lib.hid (show s12.all P.bitB = true by rw [← h12, List.all_append, B1.out, B2.out]; rfl)
          clear b2 h12
          go_wp2_with fail
          refine (c_l2Of_n 9 24 _ _ (by omega) (by omega) (by rfl)).mono ?_
          rintro e w' ⟨s3, ⟨l3, b3⟩, rfl, rfl⟩
          have B3 := Lib.hid (show (s12 ++ s3).all P.bitB = true by rw [List.all_append, B12.out, b3]; rfl)
          have L3 := Lib.hid (show (s12 ++ s3).length = 44 by rw [List.length_append]; omega)
          have hadd2 : ∀ W, (Op.stringOp .add (bs s12) (bs s3)).run Try.prog W = .ok (.string (bs (s12 ++ s3))) W := fun W => run_add W s12 s3 (by omega)
          clear b3
          go_wp2_with fail
          refine (c_l4Add_44 _ _ L3.out B3.out).mono ?_
          rintro e w' ⟨s4, ⟨l4, b4⟩, rfl, rfl⟩
          have B4 := Lib.hid b4
          clear b4 hadd1 hadd2
          go_wp2_with fail
          refine (c_l2Hex_56 s4 _ l4 B4.out).mono ?_
          rintro e w' ⟨v, hv, rfl, rfl⟩
          have hv3 : v.length ≤ 300 := by omega
          go_wp2
          go_ret
          exact ⟨v, hv3, rfl, HB.out⟩
        · have hz3 : u.length ≤ 300 := by omega
          have HB := Lib.hid (cur_below HWZ.out (by rw [HGZ.out]; exact HG6.out))
          go_wp2
          go_ret
          exact ⟨u, hz3, rfl, HB.out⟩
theorem c_DrawRepairFrame (A : Option Addr) (n c : Nat) (l : List UInt8) (w : World) (hl : l.length = n) (hn : n ≤ 65536) (h : Holds w A (ub l)) : Calls Try.prog 120 #[.slice A n c] w (GaveS 300 w) := by
  go_enter Try.func120, Try.ntmps120
  go_wp2_with fail
  refine (c_DrawDecodeFrame A n c l _ hl hn h).mono ?_
  rintro e w1 ⟨x, hx, rfl, hb1⟩
  go_wp2
  go_ret
  exact ⟨x, hx, rfl, hb1⟩
end Go.Proofs.Ytfbanjmooknafaa
