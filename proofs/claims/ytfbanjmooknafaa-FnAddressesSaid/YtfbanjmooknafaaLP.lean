/-
  The walks of the laws on parities and on syndromes: what they share, and the plain facts.
-/
import Derived.Test.YtfbanjmooknafaaDQ
import Derived.Test.YtfbanjmooknafaaDG
import Derived.Test.YtfbanjmooknafaaQR
import Derived.Test.YtfbanjmooknafaaQP
import Derived.Test.YtfbanjmooknafaaQV
import Derived.Test.YtfbanjmooknafaaQW
import Derived.Test.YtfbanjmooknafaaB3
import Derived.Test.YtfbanjmooknafaaPlain3
namespace Go.Proofs.Ytfbanjmooknafaa
open Go.RowKit
set_option linter.unusedSimpArgs false
set_option linter.unusedVariables false
set_option maxRecDepth 100000

theorem ml {x : List UInt8} (h : x.length ≤ 1000) : (bs x).size ≤ maxLen := by rw [bs_size]; unfold maxLen; omega
theorem fb_nat {x : List UInt8} {k : Nat} (h64 : x.length ≤ 64) (hb : x.all P.bitB = true) (hk : k < x.length) : fbOk x k = true ∧ fbL x k = P.flipL x k := by
  have o : fbOk x k = true := by
    unfold fbOk
    rw [Bool.and_eq_true, P.isBits_iff, P.inB_iff]
    exact ⟨⟨h64, hb⟩, by omega, by omega⟩
  refine ⟨o, ?_⟩
  unfold fbL; rw [o]; rfl
theorem cr_flip {x : List UInt8} (h : crOk x = true) (k : Nat) : crOk (P.flipL x k) = true := by
  obtain ⟨⟨h64, hb⟩, h12⟩ := crOk_iff.1 h
  exact crOk_iff.2 ⟨⟨by rw [P.flipL_len]; exact h64, P.flipL_bits hb k⟩, by rw [P.flipL_len]; exact h12⟩
/-- one changed bit of a sound text is found -/
theorem rep_flip {t : List UInt8} (h : isB t = true) {i : Nat} (hi : i < t.length) : rbOk (P.flipL t i) = true ∧ rbS (P.flipL t i) = t ∧ rbI (P.flipL t i) = i ∧ crOk (P.flipL t i) = true ∧ isB (P.flipL t i) = false := by
  obtain ⟨hc, h0⟩ := is_iff.1 h
  obtain ⟨⟨h64, hb⟩, h12⟩ := crOk_iff.1 hc
  have hcf := cr_flip hc i
  have hfl := P.flipL_len t i
  have hfb := P.flipL_bits hb i
  have hs : P.synN (P.flipL t i) = P.synN (P.single t.length i) := by rw [P.synN_flip hb h12 hi, h0, Nat.zero_xor]
  have hn : sndB (P.flipL t i) = false := by
    unfold sndB; rw [decide_eq_false_iff_not, hs]; exact P.syn_ne h12 h64 hi
  have hat : ∀ j, j < t.length → (flB (P.flipL t i) j = true ↔ j = i) := fun j hj => by
    unfold flB sndB
    rw [decide_eq_true_eq, P.flip_sound hfb (by omega) (by omega), hs, hfl]
    exact ⟨fun e => P.syn_inj h12 h64 hj hi e, fun e => by rw [e]⟩
  obtain ⟨r1, r2, r3⟩ := rb_at hcf hn (by omega) ((hat i hi).2 rfl) (fun j hj => by
    cases hv : flB (P.flipL t i) j with
    | false => rfl
    | true => have := (hat j (by omega)).1 hv; omega)
  refine ⟨r1, by rw [r2, P.flipL_flip hb hi], r3, hcf, ?_⟩
  unfold isB; rw [hn, Bool.and_false]
theorem par1 {s : List UInt8} (h : paOk s = true) : isB (apS s) = true ∧ crOk (apS s) = true ∧ stS (apS s) = s ∧ (apS s).length ≤ 64 ∧ (apS s).all P.bitB = true := by
  have h0 := h
  unfold paOk at h0
  rw [Bool.and_eq_true, P.isBits_iff, decide_eq_true_eq] at h0
  obtain ⟨⟨h64, hb⟩, h52⟩ := h0
  have e : apS s = s ++ P.bitsL (P.parN s) 12 := by unfold apS; rw [h]; rfl
  have hp := P.parN_lt s
  have hlen : (apS s).length = s.length + 12 := by rw [e, List.length_append, P.bitsL_len]
  have hbits : (apS s).all P.bitB = true := by rw [e, List.all_append, hb, P.bitsL_bits]; rfl
  have ht : (apS s).take ((apS s).length - 12) = s := by rw [hlen, e, Nat.add_sub_cancel, List.take_left]
  have hd : (apS s).drop ((apS s).length - 12) = P.bitsL (P.parN s) 12 := by rw [hlen, e, Nat.add_sub_cancel, List.drop_left]
  have hc : crOk (apS s) = true := crOk_iff.2 ⟨⟨by omega, hbits⟩, by omega⟩
  have h0 : P.synN (apS s) = 0 := by
    unfold P.synN; rw [ht, hd, P.numL_bits (by omega), Nat.xor_self]
  have hi : isB (apS s) = true := is_iff.2 ⟨hc, h0⟩
  refine ⟨hi, hc, ?_, by omega, hbits⟩
  unfold stS; rw [if_pos hi, ht]
theorem rbA_w1 (l : List UInt8) : (rbA l).isSome = w1B l := by
  unfold rbA w1B
  cases h : P.firstTo (flB l) l.length with
  | none =>
    have hn := P.firstTo_none.1 h
    symm
    show ((List.range l.length).any (flB l)) = false
    rw [List.any_eq_false]
    intro j hj
    rw [hn j (List.mem_range.1 hj)]; simp
  | some i =>
    obtain ⟨hi, hf, _⟩ := P.firstTo_some.1 h
    symm
    show ((List.range l.length).any (flB l)) = true
    rw [List.any_eq_true]
    exact ⟨i, List.mem_range.2 hi, hf⟩
theorem syn2 {s : List UInt8} (h : crOk s = true) : (wfI s = 0 ∧ isB s = true ∧ rbOk s = true ∧ rbI s = -1) ∨ (wfI s = 1 ∧ isB s = false ∧ rbOk s = true ∧ ∃ k : Nat, rbI s = k) ∨ (wfI s = 2 ∧ isB s = false ∧ rbOk s = false) ∨ (wfI s = 3 ∧ isB s = false ∧ rbOk s = false) := by
  have hi : isB s = sndB s := by unfold isB; rw [h, Bool.true_and]
  have hr : rbOk s = (sndB s || w1B s) := by unfold rbOk; rw [h, Bool.true_and, rbA_w1]
  have hw : wfI s = if sndB s = true then 0 else if w1B s = true then 1 else if w2B s = true then 2 else 3 := by unfold wfI; rw [if_pos h]
  have hb : rbI s = if rbOk s = true then (if sndB s = true then -1 else (((rbA s).getD 0 : Nat) : Int)) else 0 := rfl
  rw [hi, hw]
  rw [hr] at hb
  rw [hr, hb]
  cases sndB s with
  | true => exact Or.inl ⟨rfl, rfl, rfl, rfl⟩
  | false =>
    cases w1B s with
    | true => exact Or.inr (Or.inl ⟨rfl, rfl, rfl, _, rfl⟩)
    | false =>
      cases w2B s with
      | true => exact Or.inr (Or.inr (Or.inl ⟨rfl, rfl, rfl⟩))
      | false => exact Or.inr (Or.inr (Or.inr ⟨rfl, rfl, rfl⟩))
theorem xor_bits {m n w : Nat} (hm : m < 2 ^ w) (hn : n < 2 ^ w) : P.xorL (P.bitsL m w) (P.bitsL n w) = P.bitsL (m ^^^ n) w := by
  have he : (P.bitsL m w).length = (P.bitsL n w).length := by rw [P.bitsL_len, P.bitsL_len]
  have h1 := P.numL_xor (P.bitsL_bits m w) (P.bitsL_bits n w) he
  rw [P.numL_bits hm, P.numL_bits hn] at h1
  have h2 := P.bits_numL (P.xorL_bits (P.bitsL m w) (P.bitsL n w))
  rw [P.xorL_len he, P.bitsL_len, h1] at h2
  exact h2.symm
theorem syn1 {s : List UInt8} (h : crOk s = true) : ∃ k : Nat, k = s.length / 2 ∧ s.length ≤ 64 ∧ fbOk s k = true ∧ (fbL s k).length ≤ 64 ∧ crOk (fbL s k) = true ∧ ptOk s.length k = true ∧ xoOk (syS s) (ptS s.length k) = true ∧ xoL (syS s) (ptS s.length k) = syS (fbL s k) ∧ (syS s).length ≤ 12 ∧ (ptS s.length k).length ≤ 12 := by
  obtain ⟨⟨h64, hb⟩, h12⟩ := crOk_iff.1 h
  have hk : s.length / 2 < s.length := by omega
  obtain ⟨o1, e1⟩ := fb_nat h64 hb hk
  have hp : ptOk (s.length : Int) ((s.length / 2 : Nat) : Int) = true := by
    unfold ptOk; rw [Bool.and_eq_true, P.inB_iff, P.inB_iff]; exact ⟨⟨by omega, by omega⟩, by omega, by omega⟩
  have ep := pt_yes hp
  have es : syS s = P.bitsL (P.synN s) 12 := by unfold syS; rw [if_pos h]
  have hcf := cr_flip h (s.length / 2)
  have ef : syS (P.flipL s (s.length / 2)) = P.bitsL (P.synN (P.flipL s (s.length / 2))) 12 := by unfold syS; rw [if_pos hcf]
  have l1 : P.synN s < 2 ^ 12 := P.synN_lt hb h12
  have l2 : P.synN (P.single s.length (s.length / 2)) < 2 ^ 12 := P.synN_lt (P.single_bits _ _) (by rw [P.single_len]; exact h12)
  have n1 := P.bitsL_len (P.synN s) 12
  have n2 := P.bitsL_len (P.synN (P.single s.length (s.length / 2))) 12
  have ho : xoOk (syS s) (ptS s.length (s.length / 2 : Nat)) = true := by
    rw [es, ep]
    unfold xoOk
    rw [Bool.and_eq_true, Bool.and_eq_true, P.isBits_iff, P.isBits_iff, decide_eq_true_eq]
    exact ⟨⟨⟨by omega, P.bitsL_bits _ _⟩, by omega, P.bitsL_bits _ _⟩, by omega⟩
  refine ⟨s.length / 2, rfl, h64, o1, by rw [e1, P.flipL_len]; exact h64, by rw [e1]; exact hcf, hp, ho, ?_, by rw [es]; omega, by rw [ep]; omega⟩
  unfold xoL
  rw [if_pos ho, es, ep, e1, ef, xor_bits l1 l2, P.synN_flip hb h12 hk]
theorem pt_len (n i : Int) : (ptS n i).length ≤ 12 := by
  unfold ptS; split
  · rw [P.bitsL_len]; omega
  · simp
theorem sy_len (s : List UInt8) : (syS s).length ≤ 12 := by
  unfold syS; split
  · rw [P.bitsL_len]; omega
  · simp
theorem pa_len (s : List UInt8) : (paS s).length ≤ 12 := by
  unfold paS; split
  · rw [P.bitsL_len]; omega
  · simp
theorem ap_len (s : List UInt8) : (apS s).length ≤ 64 := by
  unfold apS; split
  · rename_i h
    unfold paOk at h
    rw [Bool.and_eq_true, decide_eq_true_eq] at h
    rw [List.length_append, P.bitsL_len]; omega
  · simp
theorem st_len {s : List UInt8} (h : s.length ≤ 300) : (stS s).length ≤ 300 := by
  unfold stS; split
  · rw [List.length_take]; omega
  · simp
theorem rb_len {s : List UInt8} (h : s.length ≤ 300) : (rbS s).length ≤ 300 := by
  unfold rbS
  split
  · split
    · exact h
    · rw [P.flipL_len]; exact h
  · simp
theorem k_AP (x : List UInt8) (T : List UInt8) (o : Bool) (hT : apS x = T) (ho : paOk x = o) (hx : x.length ≤ 1000) (w : World) : Calls Try.prog 71 #[.string (bs x)] w fun e w' => e = .returned (.tuple #[.string (bs T), .bool o]) ∧ Below w.heap.size w w' := by
  have h := c_implAddParity (bs x) w (ml hx)
  rw [show B (bs x) = x from rfl, hT, ho] at h
  exact h
theorem k_APs (x : List UInt8) (T : List UInt8) (o : Bool) (hT : apS x = T) (ho : paOk x = o) (hx : x.length ≤ 1000) (w : World) : Calls Try.prog 72 #[.string (bs x)] w fun e w' => e = .returned (.tuple #[.string (bs T), .bool o]) ∧ Below w.heap.size w w' := by
  have h := c_specAddParity (bs x) w (ml hx)
  rw [show B (bs x) = x from rfl, hT, ho] at h
  exact h.mono (fun e w' ⟨a, b⟩ => ⟨a, b ▸ Below.refl _ _⟩)
theorem k_PA (x : List UInt8) (T : List UInt8) (o : Bool) (hT : paS x = T) (ho : paOk x = o) (hx : x.length ≤ 1000) (w : World) : Calls Try.prog 29 #[.string (bs x)] w fun e w' => e = .returned (.tuple #[.string (bs T), .bool o]) ∧ Below w.heap.size w w' := by
  have h := c_implParityOf (bs x) w (ml hx)
  rw [show B (bs x) = x from rfl, hT, ho] at h
  exact h
theorem k_PAs (x : List UInt8) (T : List UInt8) (o : Bool) (hT : paS x = T) (ho : paOk x = o) (hx : x.length ≤ 1000) (w : World) : Calls Try.prog 30 #[.string (bs x)] w fun e w' => e = .returned (.tuple #[.string (bs T), .bool o]) ∧ Below w.heap.size w w' := by
  have h := c_specParityOf (bs x) w (ml hx)
  rw [show B (bs x) = x from rfl, hT, ho] at h
  exact h.mono (fun e w' ⟨a, b⟩ => ⟨a, b ▸ Below.refl _ _⟩)
theorem k_IS (x : List UInt8) (T : Bool) (o : Bool) (hT : isB x = T) (ho : crOk x = o) (hx : x.length ≤ 1000) (w : World) : Calls Try.prog 24 #[.string (bs x)] w fun e w' => e = .returned (.tuple #[.bool T, .bool o]) ∧ Below w.heap.size w w' := by
  have h := c_implIsSound (bs x) w (ml hx)
  rw [show B (bs x) = x from rfl, hT, ho] at h
  exact h
theorem k_ST (x : List UInt8) (T : List UInt8) (o : Bool) (hT : stS x = T) (ho : isB x = o) (hx : x.length ≤ 1000) (w : World) : Calls Try.prog 73 #[.string (bs x)] w fun e w' => e = .returned (.tuple #[.string (bs T), .bool o]) ∧ Below w.heap.size w w' := by
  have h := c_implStripParity (bs x) w (ml hx)
  rw [show B (bs x) = x from rfl, hT, ho] at h
  exact h
theorem k_SY (x : List UInt8) (T : List UInt8) (o : Bool) (hT : syS x = T) (ho : crOk x = o) (hx : x.length ≤ 1000) (w : World) : Calls Try.prog 17 #[.string (bs x)] w fun e w' => e = .returned (.tuple #[.string (bs T), .bool o]) ∧ Below w.heap.size w w' := by
  have h := c_implSyndromeOf (bs x) w (ml hx)
  rw [show B (bs x) = x from rfl, hT, ho] at h
  exact h
theorem k_SYs (x : List UInt8) (T : List UInt8) (o : Bool) (hT : syS x = T) (ho : crOk x = o) (hx : x.length ≤ 1000) (w : World) : Calls Try.prog 18 #[.string (bs x)] w fun e w' => e = .returned (.tuple #[.string (bs T), .bool o]) ∧ Below w.heap.size w w' := by
  have h := c_specSyndromeOf (bs x) w (ml hx)
  rw [show B (bs x) = x from rfl, hT, ho] at h
  exact h
theorem k_WF (x : List UInt8) (T : Int) (o : Bool) (hT : wfI x = T) (ho : crOk x = o) (hx : x.length ≤ 1000) (w : World) : Calls Try.prog 19 #[.string (bs x)] w fun e w' => e = .returned (.tuple #[.int .i64 T, .bool o]) ∧ Below w.heap.size w w' := by
  have h := c_implWeakestFlips (bs x) w (ml hx)
  rw [show B (bs x) = x from rfl, hT, ho] at h
  exact h
theorem k_WFs (x : List UInt8) (T : Int) (o : Bool) (hT : wfI x = T) (ho : crOk x = o) (hx : x.length ≤ 1000) (w : World) : Calls Try.prog 20 #[.string (bs x)] w fun e w' => e = .returned (.tuple #[.int .i64 T, .bool o]) ∧ Below w.heap.size w w' := by
  have h := c_specWeakestFlips (bs x) w (ml hx)
  rw [show B (bs x) = x from rfl, hT, ho] at h
  exact h
theorem k_FB (x : List UInt8) (i : Int) (T : List UInt8) (o : Bool) (hT : fbL x i = T) (ho : fbOk x i = o) (hx : x.length ≤ 1000) (w : World) : Calls Try.prog 21 #[.string (bs x), .int .i64 i] w fun e w' => e = .returned (.tuple #[.string (bs T), .bool o]) ∧ Below w.heap.size w w' := by
  have h := c_implFlipBit (bs x) i w (ml hx)
  rw [show B (bs x) = x from rfl, hT, ho] at h; exact h
theorem k_XB (x y : List UInt8) (T : List UInt8) (o : Bool) (hT : xoL x y = T) (ho : xoOk x y = o) (hx : x.length ≤ 1000) (hy : y.length ≤ 1000) (w : World) : Calls Try.prog 23 #[.string (bs x), .string (bs y)] w fun e w' => e = .returned (.tuple #[.string (bs T), .bool o]) ∧ Below w.heap.size w w' := by
  have h := c_implXorBits (bs x) (bs y) w (ml hx) (ml hy)
  rw [show B (bs x) = x from rfl, show B (bs y) = y from rfl, hT, ho] at h; exact h
theorem k_RB (x : List UInt8) (T : List UInt8) (n : Int) (o : Bool) (hT : rbS x = T) (hn : rbI x = n) (ho : rbOk x = o) (hx : x.length ≤ 1000) (w : World) : Calls Try.prog 25 #[.string (bs x)] w fun e w' => e = .returned (.tuple #[.string (bs T), .int .i64 n, .bool o]) ∧ Below w.heap.size w w' := by
  have h := c_implRepairBit (bs x) w (ml hx)
  rw [show B (bs x) = x from rfl, hT, hn, ho] at h; exact h
theorem k_RBs (x : List UInt8) (T : List UInt8) (n : Int) (o : Bool) (hT : rbS x = T) (hn : rbI x = n) (ho : rbOk x = o) (hx : x.length ≤ 1000) (w : World) : Calls Try.prog 75 #[.string (bs x)] w fun e w' => e = .returned (.tuple #[.string (bs T), .int .i64 n, .bool o]) ∧ Below w.heap.size w w' := by
  have h := c_specRepairBit (bs x) w (ml hx)
  rw [show B (bs x) = x from rfl, hT, hn, ho] at h
  exact h.mono (fun e w' ⟨a, b⟩ => ⟨a, b.below _⟩)
theorem k_PT (n i : Int) (T : List UInt8) (o : Bool) (hT : ptS n i = T) (ho : ptOk n i = o) (w : World) : Calls Try.prog 22 #[.int .i64 n, .int .i64 i] w fun e w' => e = .returned (.tuple #[.string (bs T), .bool o]) ∧ Below w.heap.size w w' := by
  have h := c_implPatternOf n i w
  rw [hT, ho] at h; exact h
theorem k_PTs (n i : Int) (T : List UInt8) (o : Bool) (hT : ptS n i = T) (ho : ptOk n i = o) (w : World) : Calls Try.prog 27 #[.int .i64 n, .int .i64 i] w fun e w' => e = .returned (.tuple #[.string (bs T), .bool o]) ∧ Below w.heap.size w w' := by
  have h := c_specPatternOf n i w
  rw [hT, ho] at h
  exact h.mono (fun e w' ⟨a, b⟩ => ⟨a, b.below _⟩)
theorem c_DrawAddParity (A : Option Addr) (n c : Nat) (l : List UInt8) (w : World) (hl : l.length = n) (hn : n ≤ 65536) (h : Holds w A (ub l)) : Calls Try.prog 70 #[.slice A n c] w (GaveS 300 w) := by
  go_enter Try.func70, Try.ntmps70
  go_wp2_with fail
  refine (c_DrawParityOf A n c l _ hl hn h).mono ?_
  rintro e w1 ⟨x, hx, rfl, hb1⟩
  go_wp2
  go_ret
  exact ⟨x, hx, rfl, hb1⟩
end Go.Proofs.Ytfbanjmooknafaa
