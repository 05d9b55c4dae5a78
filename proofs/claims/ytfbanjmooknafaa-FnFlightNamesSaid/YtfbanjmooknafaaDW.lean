/-
  Contracts of the draws of bits of names and of parts of names.
-/
import Derived.Test.YtfbanjmooknafaaDK
import Derived.Test.YtfbanjmooknafaaNN
namespace Go.Proofs.Ytfbanjmooknafaa
open Go.RowKit
set_option linter.unusedSimpArgs false
set_option linter.unusedVariables false
set_option maxRecDepth 100000

theorem ext_cut (t : List UInt8) (a b : Nat) : (bs t).extract a b = bs ((t.drop a).take (b - a)) := B_inj (by rw [B_ext, B_bs, B_bs])
set_option maxHeartbeats 1000000 in
theorem c_DrawParseNameBits (A : Option Addr) (n c : Nat) (l : List UInt8) (w : World) (hl : l.length = n) (hn : n ≤ 65536) (h : Holds w A (ub l)) : Calls Try.prog 94 #[.slice A n c] w (GaveS 300 w) := by
  have hcn := cur_new (w := w) (A := A) c 102 h
  rw [hl] at hcn
  obtain ⟨W0, hW0⟩ : ∃ W0, w.alloc (.cells #[.slice A n c, .int .i64 0, .int .u64 0] 102) = W0 := ⟨_, rfl⟩
  rw [hW0] at hcn
  have HC := Lib.hid hcn
  have HL := Lib.hid (show l.length ≤ 70000 by omega)
  clear h hl hcn
  obtain ⟨g, hg⟩ : ∃ g, w.heap.size = g := ⟨_, rfl⟩
  have HGZ := Lib.hid hg
  rw [hg] at HC
  go_enter Try.func94, Try.ntmps94
  go_wp2_with fail
  have HWZ := Lib.hid hW0
  clear hW0 hg
  try rw [HGZ.out]
  refine (c_flightName g l 0 _ HC.out (by omega) HL.out).mono ?_
  rintro e w1 ⟨x, hx, rfl, hc1, hg1⟩
  have hx3 : x.length ≤ 10 := hx
  have HC1 := Lib.hid hc1
  have HG1 := Lib.hid hg1
  clear hc1 hg1 hx
  go_wp2_with fail
  refine (c_l3Name_l x _ (by unfold maxLen; omega)).mono ?_
  rintro e w' ⟨rfl, rfl⟩
  cases hnm : P.nameB x with
  | false =>
    go_wp2_with fail
    refine (c_anyBits 48 g l _ _ HC1.out (by omega) HL.out (by omega)).mono ?_
    rintro e w2 ⟨y, hy, rfl, hc2, hg2⟩
    have hy3 : y.length ≤ 300 := hy
    have HB := Lib.hid (cur_below HWZ.out (by rw [HGZ.out]; exact (only_trans HG1.out hg2)))
    go_wp2
    go_ret
    exact ⟨y, hy3, rfl, HB.out⟩
  | true =>
    have HNM := Lib.hid hnm
    clear hnm
    go_wp2_with fail
    refine (c_l3Bits (bs x) _ HNM.out).mono ?_
    rintro e w' ⟨rfl, rfl⟩
    have hbl := P.nbL_len x
    have hbb := P.nbL_bits x
    obtain ⟨t, ht⟩ : ∃ t, P.nbL (B (bs x)) = t := ⟨_, rfl⟩
    rw [show P.nbL x = t from ht] at hbl hbb
    rw [ht]
    have hts := bs_size t
    rw [hbl] at hts
    have HBL := Lib.hid hbl
    have HBB := Lib.hid hbb
    clear ht hbl hbb
    go_wp2_with fail
    refine (c_pick 6 g l _ _ HC1.out (by omega) HL.out (by omega) (by omega)).mono ?_
    rintro e w2 ⟨k, k0, k1, rfl, hc2, hg2⟩
    have HC2 := Lib.hid hc2
    have HG2 := Lib.hid (only_trans HG1.out hg2)
    clear hc2 hg2 HG1 HC1
    by_cases e0 : k = 0
    · subst e0
      go_wp2_with fail
      refine (c_pick 48 g l _ _ HC2.out (by omega) HL.out (by omega) (by omega)).mono ?_
      rintro e w3 ⟨p, p0, p1, rfl, hc3, hg3⟩
      obtain ⟨p, rfl⟩ : ∃ p' : Nat, p = (p' : Int) := ⟨p.toNat, by omega⟩
      have HG3 := Lib.hid (only_trans HG2.out hg3)
      clear hc3 hg3
      go_wp2_with fail
      refine (c_l2Flip (bs t) p _ (by omega) (by omega) HBB.out).mono ?_
      rintro e w4 ⟨rfl, hq4⟩
      have HG4 := Lib.hid (only_grown HG3.out (hq4.below _))
      have hz3 : (P.flipL (B (bs t)) p).length ≤ 300 := by rw [P.flipL_len, B_bs, HBL.out]; omega
      clear hq4
      have HB := Lib.hid (cur_below HWZ.out (by rw [HGZ.out]; exact HG4.out))
      go_wp2
      go_ret
      exact ⟨_, hz3, rfl, HB.out⟩
    · by_cases e1 : k = 1
      · subst e1
        obtain ⟨u, hu⟩ : ∃ u, (bs t).extract 6 48 = u := ⟨_, rfl⟩
        obtain ⟨v, hv⟩ : ∃ v, (bs t).extract 0 6 = v := ⟨_, rfl⟩
        have hul : (B u).length ≤ 48 := by rw [← hu, B_ext, B_bs, List.length_take, List.length_drop, HBL.out]; omega
        have hvl : (B v).length ≤ 48 := by rw [← hv, B_ext, B_bs, List.length_take, List.length_drop, HBL.out]; omega
        have hadd : ∀ W, (Op.stringOp .add u v).run Try.prog W = .ok (.string (bs (B u ++ B v))) W := fun W => run_add_s W u v (by omega)
        have hz3 : (B u ++ B v).length ≤ 300 := by rw [List.length_append]; omega
        have HB := Lib.hid (cur_below HWZ.out (by rw [HGZ.out]; exact HG2.out))
        go_wp2
        go_quiet (fail)
        go_wp2
        go_ret
        exact ⟨_, hz3, rfl, below_drewN HB.out _⟩
      · by_cases e2 : k = 2
        · subst e2
          go_wp2_with fail
          refine (c_pick 2 g l _ _ HC2.out (by omega) HL.out (by omega) (by omega)).mono ?_
          rintro e w3 ⟨p, p0, p1, rfl, hc3, hg3⟩
          obtain ⟨p, rfl⟩ : ∃ p' : Nat, p = (p' : Int) := ⟨p.toNat, by omega⟩
          have HG3 := Lib.hid (only_trans HG2.out hg3)
          have hz3 : ((t.drop p).take (48 - p)).length ≤ 300 := by rw [List.length_take]; omega
          have hxe := ext_cut t p 48
          clear hc3 hg3
          have HB := Lib.hid (cur_below HWZ.out (by rw [HGZ.out]; exact HG3.out))
          go_wp2
          go_ret
          exact ⟨_, hz3, rfl, HB.out⟩
        · have hz3 : t.length ≤ 300 := by rw [HBL.out]; omega
          have HB := Lib.hid (cur_below HWZ.out (by rw [HGZ.out]; exact HG2.out))
          go_wp2
          go_ret
          exact ⟨t, hz3, rfl, HB.out⟩
theorem q_num (s : ByteArray) (k : Nat) (hs : s.size ≤ 24) (hb : (B s).all P.bitB = true) (he : P.numL (B s) = k) (w : World) : Calls Try.prog 173 #[.string s] w fun e w' => e = .returned (.int .i64 k) ∧ w' = w :=
  (c_l2Number s w (by omega) hb).mono fun e w' h => ⟨h.1.trans (by rw [he]), h.2.symm⟩
theorem num24 {s : ByteArray} (hs : s.size ≤ 24) (hb : (B s).all P.bitB = true) : ∃ k : Nat, k ≤ 16777215 ∧ P.numL (B s) = k := ⟨P.numL (B s), by
  have h1 := P.numL_lt (B s)
  rw [B_len] at h1
  have h2 : 2 ^ s.size ≤ 2 ^ 24 := Nat.pow_le_pow_right (by decide) hs
  omega, rfl⟩
set_option maxHeartbeats 1000000 in
theorem c_DrawJoinNameParts (A : Option Addr) (n c : Nat) (l : List UInt8) (w : World) (hl : l.length = n) (hn : n ≤ 65536) (h : Holds w A (ub l)) : Calls Try.prog 102 #[.slice A n c] w (GaveII (-1) 16777216 w) := by
  have hcn := cur_new (w := w) (A := A) c 102 h
  rw [hl] at hcn
  obtain ⟨W0, hW0⟩ : ∃ W0, w.alloc (.cells #[.slice A n c, .int .i64 0, .int .u64 0] 102) = W0 := ⟨_, rfl⟩
  rw [hW0] at hcn
  have HC := Lib.hid hcn
  have HL := Lib.hid (show l.length ≤ 70000 by omega)
  clear h hl hcn
  obtain ⟨g, hg⟩ : ∃ g, w.heap.size = g := ⟨_, rfl⟩
  have HGZ := Lib.hid hg
  rw [hg] at HC
  go_enter Try.func102, Try.ntmps102
  go_wp2_with fail
  have HWZ := Lib.hid hW0
  clear hW0 hg
  try rw [HGZ.out]
  refine (c_flightName g l 0 _ HC.out (by omega) HL.out).mono ?_
  rintro e w1 ⟨x, hx, rfl, hc1, hg1⟩
  have hx3 : x.length ≤ 10 := hx
  have HC1 := Lib.hid hc1
  have HG1 := Lib.hid hg1
  clear hc1 hg1 hx
  go_wp2_with fail
  refine (c_l3Name_l x _ (by unfold maxLen; omega)).mono ?_
  rintro e w' ⟨rfl, rfl⟩
  cases hnm : P.nameB x with
  | false =>
    go_wp2_with fail
    have HA := Lib.hid (holds_new w1 (vi [0,-1,16777215,16777216]) 3)
    have HCA := Lib.hid (HC1.out.alloc (.cells (vi [0,-1,16777215,16777216]).toArray 3))
    have HGA := Lib.hid (grown_alloc HG1.out (.cells (vi [0,-1,16777215,16777216]).toArray 3))
    have HNE := Lib.hid (lit_ne HC1.out)
    refine (c_among _ 4 4 [0,-1,16777215,16777216] (-1) 16777216 g l (0 + 4) _ rfl (by exact HA.out) (by decide) HNE.out (by exact HCA.out) (by omega) HL.out (by omega) (by omega)).mono ?_
    rintro e w2 ⟨v, v0, v1, rfl, hc2, hg2⟩
    have HC2 := Lib.hid hc2
    have HG2 := Lib.hid (only_trans HGA.out hg2)
    clear hc2 hg2 HA HCA HGA HNE
    go_wp2_with fail
    refine (c_pick 1000 g l _ _ HC2.out (by omega) HL.out (by omega) (by omega)).mono ?_
    rintro e w3 ⟨p, p0, p1, rfl, hc3, hg3⟩
    have HB := Lib.hid (cur_below HWZ.out (by rw [HGZ.out]; exact only_trans HG2.out hg3))
    clear hc3 hg3
    go_wp2
    go_ret2
    exact ⟨v, p, ⟨v0, v1⟩, ⟨by omega, by omega⟩, rfl, HB.out⟩
  | true =>
    have HNM := Lib.hid hnm
    clear hnm
    go_wp2_with fail
    refine (c_one 8 g l _ _ HC1.out (by omega) HL.out (by omega) (by omega)).mono ?_
    rintro e w2 ⟨b2, rfl, hc2, hg2⟩
    have HC2 := Lib.hid hc2
    have HG2 := Lib.hid (only_trans HG1.out hg2)
    clear hc2 hg2 HC1 HG1
    cases b2 with
    | true =>
      go_wp2_with fail
      have HA := Lib.hid (holds_new w2 (vi [0,-1,16777215,16777216]) 3)
      have HCA := Lib.hid (HC2.out.alloc (.cells (vi [0,-1,16777215,16777216]).toArray 3))
      have HGA := Lib.hid (grown_alloc HG2.out (.cells (vi [0,-1,16777215,16777216]).toArray 3))
      have HNE := Lib.hid (lit_ne HC2.out)
      refine (c_among _ 4 4 [0,-1,16777215,16777216] (-1) 16777216 g l (0 + 4 + 2) _ rfl (by exact HA.out) (by decide) HNE.out (by exact HCA.out) (by omega) HL.out (by omega) (by omega)).mono ?_
      rintro e w3 ⟨v, v0, v1, rfl, hc3, hg3⟩
      have HC3 := Lib.hid hc3
      have HG3 := Lib.hid (only_trans HGA.out hg3)
      clear hc3 hg3 HA HCA HGA HNE
      go_wp2_with fail
      refine (c_pick 1000 g l _ _ HC3.out (by omega) HL.out (by omega) (by omega)).mono ?_
      rintro e w4 ⟨p, p0, p1, rfl, hc4, hg4⟩
      have HB := Lib.hid (cur_below HWZ.out (by rw [HGZ.out]; exact only_trans HG3.out hg4))
      clear hc4 hg4
      go_wp2
      go_ret2
      exact ⟨v, p, ⟨v0, v1⟩, ⟨by omega, by omega⟩, rfl, HB.out⟩
    | false =>
      have HB := Lib.hid (cur_below HWZ.out (by rw [HGZ.out]; exact HG2.out))
      go_wp2_with fail
      refine (c_l3Bits (bs x) _ HNM.out).mono ?_
      rintro e w' ⟨rfl, rfl⟩
      have hbl := P.nbL_len x
      have hbb := P.nbL_bits x
      obtain ⟨t, ht⟩ : ∃ t, P.nbL (B (bs x)) = t := ⟨_, rfl⟩
      rw [show P.nbL x = t from ht] at hbl hbb
      rw [ht]
      have hts := bs_size t
      rw [hbl] at hts
      obtain ⟨u, hu⟩ : ∃ u, (bs t).extract 0 24 = u := ⟨_, rfl⟩
      obtain ⟨v, hv⟩ : ∃ v, (bs t).extract 24 48 = v := ⟨_, rfl⟩
      have HUB := Lib.hid (show (B u).all P.bitB = true by rw [← hu, B_ext, B_bs]; exact P.all_take (P.all_drop hbb _) _)
      have HVB := Lib.hid (show (B v).all P.bitB = true by rw [← hv, B_ext, B_bs]; exact P.all_take (P.all_drop hbb _) _)
      have hul : u.size ≤ 24 := by rw [← B_len, ← hu, B_ext, List.length_take]; omega
      have hvl : v.size ≤ 24 := by rw [← B_len, ← hv, B_ext, List.length_take]; omega
      clear ht hbl hbb
      obtain ⟨p, hp, hpe⟩ := num24 hul HUB.out
      obtain ⟨q, hq, hqe⟩ := num24 hvl HVB.out
      have HPE := Lib.hid hpe
      have HQE := Lib.hid hqe
      clear hpe hqe
      go_wp2
      go_quiet ((go_at_call 173; exact Calls.quiet_of_same (q_num _ _ (by assumption) (by first | exact HUB.out | exact HVB.out) (by first | exact HPE.out | exact HQE.out) _)))
      go_wp2
      go_ret2
      exact ⟨p, q, ⟨by omega, by omega⟩, ⟨by omega, by omega⟩, rfl, below_drewN HB.out _⟩
end Go.Proofs.Ytfbanjmooknafaa
