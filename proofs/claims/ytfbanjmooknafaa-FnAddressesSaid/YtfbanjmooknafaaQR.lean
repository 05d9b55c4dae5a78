/-
  Contracts of RepairBit, PatternOf and WeakestFlips, and the walks of their laws.
-/
import Derived.Test.YtfbanjmooknafaaQJ
namespace Go.Proofs.Ytfbanjmooknafaa
open Go.RowKit
set_option linter.unusedSimpArgs false
set_option linter.unusedVariables false
set_option maxRecDepth 100000

/-- the bit string with bit i flipped is sound -/
def flB (l : List UInt8) (i : Nat) : Bool := sndB (P.flipL l i)
def rbA (l : List UInt8) : Option Nat := P.firstTo (flB l) l.length
def rbOk (l : List UInt8) : Bool := crOk l && (sndB l || (rbA l).isSome)
def rbS (l : List UInt8) : List UInt8 := if rbOk l = true then (if sndB l = true then l else P.flipL l ((rbA l).getD 0)) else []
def rbI (l : List UInt8) : Int := if rbOk l = true then (if sndB l = true then -1 else (((rbA l).getD 0 : Nat) : Int)) else 0
theorem rb_bad {l : List UInt8} (h : crOk l = false) : rbOk l = false := by unfold rbOk; rw [h]; rfl
theorem rb_no {l : List UInt8} (h : rbOk l = false) : rbS l = [] ∧ rbI l = 0 := by unfold rbS rbI; rw [h]; exact ⟨rfl, rfl⟩
theorem rb_sound {l : List UInt8} (h : crOk l = true) (h2 : sndB l = true) : rbOk l = true ∧ rbS l = l ∧ rbI l = -1 := by
  have h3 : rbOk l = true := by unfold rbOk; rw [h, h2]; rfl
  unfold rbS rbI; rw [h3, h2]; exact ⟨rfl, rfl, rfl⟩
theorem rb_at {l : List UInt8} {i : Nat} (h : crOk l = true) (h2 : sndB l = false) (hi : i < l.length) (hf : flB l i = true) (hn : ∀ j, j < i → flB l j = false) : rbOk l = true ∧ rbS l = P.flipL l i ∧ rbI l = i := by
  have ha : rbA l = some i := P.firstTo_some.2 ⟨hi, hf, hn⟩
  have h3 : rbOk l = true := by unfold rbOk; rw [h, h2, ha]; rfl
  unfold rbS rbI; rw [h3, h2, ha]; exact ⟨rfl, rfl, rfl⟩
theorem rb_none {l : List UInt8} (h2 : sndB l = false) (hn : ∀ j, j < l.length → flB l j = false) : rbOk l = false := by
  have ha : rbA l = none := P.firstTo_none.2 hn
  unfold rbOk; rw [h2, ha]; simp
theorem fl_next {l : List UInt8} {k : Nat} (h : ∀ j, j < k → flB l j = false) (h2 : flB l k = false) : ∀ j, j < k + 1 → flB l j = false := fun j hj => by
  rcases Nat.lt_or_ge j k with h3 | h3
  · exact h j h3
  · have : j = k := by omega
    rw [this]; exact h2
theorem c_isSound_l (x : List UInt8) (w : World) (h12 : 12 ≤ x.length) (hs : x.length ≤ 64) (hbits : x.all P.bitB = true) : Calls Try.prog 137 #[.string (bs x)] w fun e w' => e = .returned (.bool (sndB x)) ∧ Below w.heap.size w w' := c_isSound (bs x) w (by rw [bs_size]; exact h12) (by rw [bs_size]; exact hs) hbits
theorem c_l4Syndrome_l (x : List UInt8) (w : World) (h12 : 12 ≤ x.length) (hs : x.length ≤ 64) (hbits : x.all P.bitB = true) : Calls Try.prog 136 #[.string (bs x)] w fun e w' => e = .returned (.int .i64 (P.synN x)) ∧ Qt w w' := c_l4Syndrome (bs x) w (by rw [bs_size]; exact h12) (by rw [bs_size]; exact hs) hbits
theorem snd_yes {l : List UInt8} (h : sndB l = true) : ((P.synN l : Int) == 0) = true := by unfold sndB at h; rw [syn_eq0]; exact h
theorem snd_no {l : List UInt8} (h : sndB l = false) : ((P.synN l : Int) == 0) = false := by unfold sndB at h; rw [syn_eq0]; exact h
theorem iter_below {w w' : World} {it p : Nat} {s : ByteArray} (h : w.heap[it]? = some (.stringIter s p)) (hb : Below w.heap.size w w') : w'.heap[it]? = some (.stringIter s p) := by
  rw [hb.block it (Array.getElem?_eq_some_iff.1 h).1]; exact h
theorem c_implRepairBit (s : ByteArray) (w : World) (hs : s.size ≤ maxLen) : Calls Try.prog 25 #[.string s] w fun e w' => e = .returned (.tuple #[.string (bs (rbS (B s))), .int .i64 (rbI (B s)), .bool (rbOk (B s))]) ∧ Below w.heap.size w w' := by
  have hl := B_len s
  cases hc : crOk (B s) with
  | false =>
    have HC := Lib.hid hc
    have HF := Lib.hid (rb_bad hc)
    clear hc
    go_enter Try.func25, Try.ntmps25
    go_wp2_with (go_at_call 132; refine (c_isCarrier s _ hs).mono ?_; rintro e w' ⟨rfl, rfl⟩; rw [HC.out])
    go_ret3
    exact ⟨ret_sib (by rw [(rb_no HF.out).1]; rfl) (by rw [(rb_no HF.out).2]) HF.out.symm, Below.refl _ _⟩
  | true =>
    have HC := Lib.hid hc
    obtain ⟨⟨h64, hbits⟩, h12⟩ := crOk_iff.1 hc
    rw [hl] at h64 h12
    have HB := Lib.hid hbits
    cases hsn : sndB (B s) with
    | true =>
      have HR := Lib.hid (rb_sound hc hsn)
      have HS := Lib.hid hsn
      clear hc hbits hsn
      go_enter Try.func25, Try.ntmps25
      go_wp2_with (first | (go_at_call 132; refine (c_isCarrier s _ hs).mono ?_; rintro e w' ⟨rfl, rfl⟩; rw [HC.out]) | (go_at_call 137; refine (c_isSound s _ h12 h64 HB.out).mono ?_; rintro e w1 ⟨rfl, hb1⟩; rw [HS.out]))
      go_ret3
      exact ⟨ret_sib (by rw [B_bs, HR.out.2.1]) (by rw [HR.out.2.2]) HR.out.1.symm, hb1⟩
    | false =>
      have HS := Lib.hid hsn
      clear hc hbits hsn
      go_enter Try.func25, Try.ntmps25
      go_wp2_with (first | (go_at_call 132; refine (c_isCarrier s _ hs).mono ?_; rintro e w' ⟨rfl, rfl⟩; rw [HC.out]) | (go_at_call 137; refine (c_isSound s _ h12 h64 HB.out).mono ?_; rintro e w1 ⟨rfl, hb1⟩; rw [HS.out]))
      have hit : (w1.iter s 0).heap[w1.heap.size]? = some (.stringIter s 0) := World.iter_heap w1 s 0
      have hbi : Below w.heap.size w (w1.iter s 0) := hb1.alloc hb1.size _
      have hiw := hb1.size
      obtain ⟨it, hI⟩ : ∃ it, w1.heap.size = it := ⟨_, rfl⟩
      rw [hI] at hit hiw ⊢
      obtain ⟨W2, hW2⟩ : ∃ W2, w1.iter s 0 = W2 := ⟨_, rfl⟩
      rw [hW2] at hit hbi ⊢
      have HIT := Lib.hid hit
      clear hit hI hW2 hb1
      go_loopw [5] (fun _ wr => ∃ pos : Nat, pos ≤ s.size ∧ wr.heap[it]? = some (.stringIter s pos) ∧ (∀ j, j < pos → flB (B s) j = false) ∧ Below w.heap.size w wr) (fun _ wr => s.size - wr.iterPos it)
      case atStart => exact ⟨0, Nat.zero_le _, HIT.out, fun j hj => absurd hj (by omega), hbi⟩
      case round =>
        obtain ⟨pos, hp, hk, hno, hb⟩ := hrel
        have HK := Lib.hid hk
        have HNO := Lib.hid hno
        clear hno
        by_cases hlt : pos < s.size
        · have has : (s[pos]'hlt).toNat < 128 := by have := bit_ascii HB.out (k := pos) (by omega); rw [B_get s pos hlt] at this; omega
          have hnx := fun ty => Lib.run_next_ascii_at (P := Try.prog) wr it s pos ty hk hlt has
          obtain ⟨W3, hW3⟩ : ∃ W3, wr.iterAt it s (pos + 1) = W3 := ⟨_, rfl⟩
          have HI3 := Lib.hid (show W3.heap[it]? = some (.stringIter s (pos + 1)) by rw [← hW3]; exact Lib.iterAt_heap wr it s pos (pos + 1) HK.out)
          have hb3 : Below w.heap.size w W3 := by rw [← hW3]; exact Lib.below_iterAt hb (by omega) s (pos + 1)
          rw [hW3] at hnx
          have hfl := P.flipL_len (B s) pos
          rw [hl] at hfl
          have HFB := Lib.hid (P.flipL_bits HB.out pos)
          obtain ⟨x, hx⟩ : ∃ x, P.flipL (B s) pos = x := ⟨_, rfl⟩
          rw [hx] at hfl HFB
          have HX := Lib.hid hx
          have h12x : 12 ≤ x.length := by omega
          have h64x : x.length ≤ 64 := by omega
          clear hk hW3 hx hfl
          cases hsx : sndB x with
          | true =>
            have HSX := Lib.hid hsx
            have HR := Lib.hid (rb_at HC.out HS.out (i := pos) (by omega) (by unfold flB; rw [HX.out]; exact hsx) HNO.out)
            clear hsx
            go_wp2_with fail
            refine (c_flip s pos _ h64 hlt HB.out).mono ?_
            rintro e w4 ⟨rfl, hb4⟩
            rw [HX.out]
            go_wp2_with fail
            refine (c_isSound_l x _ h12x h64x HFB.out).mono ?_
            rintro e w5 ⟨rfl, hb5⟩
            rw [HSX.out]
            go_wp2_with fail
            refine (c_flip s pos _ h64 hlt HB.out).mono ?_
            rintro e w6 ⟨rfl, hb6⟩
            rw [HX.out]
            have hbf := hb3.trans (((hb4.trans (hb5.mono hb4.size)).trans (hb6.mono (Nat.le_trans hb4.size hb5.size))).mono hb3.size)
            clear hb4 hb5 hb6
            go_wp2
            go_ret3
            exact ⟨ret_sib (by rw [B_bs, B_bs, HR.out.2.1, HX.out]) (by rw [HR.out.2.2]) HR.out.1.symm, hbf⟩
          | false =>
            have HSX := Lib.hid hsx
            have HN := Lib.hid (fl_next HNO.out (show flB (B s) pos = false by unfold flB; rw [HX.out]; exact hsx))
            clear hsx
            go_wp2_with fail
            refine (c_flip s pos _ h64 hlt HB.out).mono ?_
            rintro e w4 ⟨rfl, hb4⟩
            rw [HX.out]
            have HI4 := Lib.hid (iter_below HI3.out hb4)
            go_wp2_with fail
            refine (c_isSound_l x _ h12x h64x HFB.out).mono ?_
            rintro e w5 ⟨rfl, hb5⟩
            rw [HSX.out]
            have HI5 := Lib.hid (iter_below HI4.out hb5)
            have hbf := hb3.trans ((hb4.trans (hb5.mono hb4.size)).mono hb3.size)
            clear hb4 hb5
            go_wp2
            go_roundw
            case rel => exact ⟨pos + 1, by omega, HI5.out, HN.out, hbf⟩
            case measure => simp [World.iterPos, HI5.out, HK.out]; omega
        · have hnx := fun ty => Lib.run_next_end_at (P := Try.prog) wr it s pos ty hk hlt
          have HF := Lib.hid (rb_none HS.out (fun j hj => HNO.out j (by omega)))
          go_wp2
          go_ret3
          exact ⟨ret_sib (by rw [(rb_no HF.out).1]; rfl) (by rw [(rb_no HF.out).2]) HF.out.symm, hb⟩
theorem c_l4Repair (s : ByteArray) (w : World) (hc : crOk (B s) = true) : Calls Try.prog 175 #[.string s] w fun e w' => e = .returned (.tuple #[.string (bs (rbS (B s))), .int .i64 (rbI (B s)), .bool (rbOk (B s))]) ∧ Qt w w' := by
  have hl := B_len s
  have HC := Lib.hid hc
  obtain ⟨⟨h64, hbits⟩, h12⟩ := crOk_iff.1 hc
  rw [hl] at h64 h12
  have HB := Lib.hid hbits
  cases hsn : sndB (B s) with
  | true =>
    have HR := Lib.hid (rb_sound hc hsn)
    have hsq := snd_yes hsn
    clear hc hbits hsn
    go_enter Try.func175, Try.ntmps175
    go_wp2_with (go_at_call 136; refine (c_l4Syndrome s _ h12 h64 HB.out).mono ?_; rintro e w1 ⟨rfl, hq1⟩)
    go_ret3
    exact ⟨ret_sib (by rw [B_bs, HR.out.2.1]) (by rw [HR.out.2.2]) HR.out.1.symm, hq1⟩
  | false =>
    have hsq := snd_no hsn
    have HS := Lib.hid hsn
    clear hc hbits hsn
    go_enter Try.func175, Try.ntmps175
    go_wp2_with (go_at_call 136; refine (c_l4Syndrome s _ h12 h64 HB.out).mono ?_; rintro e w1 ⟨rfl, hq1⟩)
    go_loopw [5] (fun i wr => ∃ k : Nat, k ≤ s.size ∧ i = .int .i64 k ∧ (∀ j, j < k → flB (B s) j = false) ∧ Qt w wr) (fun i _ => s.size - (intOf i).toNat)
    case atStart => exact ⟨0, Nat.zero_le _, rfl, fun j hj => absurd hj (by omega), hq1⟩
    case round =>
      obtain ⟨k, hk, rfl, hno, hq⟩ := hrel
      have HNO := Lib.hid hno
      clear hno hsq
      by_cases hlt : k < s.size
      · have hfl := P.flipL_len (B s) k
        rw [hl] at hfl
        have HFB := Lib.hid (P.flipL_bits HB.out k)
        obtain ⟨x, hx⟩ : ∃ x, P.flipL (B s) k = x := ⟨_, rfl⟩
        rw [hx] at hfl HFB
        have HX := Lib.hid hx
        have h12x : 12 ≤ x.length := by omega
        have h64x : x.length ≤ 64 := by omega
        clear hx hfl
        cases hsx : sndB x with
        | true =>
          have hsq := snd_yes hsx
          have HR := Lib.hid (rb_at HC.out HS.out (i := k) (by omega) (by unfold flB; rw [HX.out]; exact hsx) HNO.out)
          clear hsx
          go_wp2_with (first | (go_at_call 156; refine (c_l2Flip s k _ h64 hlt HB.out).mono ?_; rintro e w4 ⟨rfl, hq4⟩; rw [HX.out]) | (go_at_call 136; refine (c_l4Syndrome_l x _ h12x h64x HFB.out).mono ?_; rintro e w5 ⟨rfl, hq5⟩))
          go_ret3
          exact ⟨ret_sib (by rw [B_bs, B_bs, HR.out.2.1, HX.out]) (by rw [HR.out.2.2]) HR.out.1.symm, (hq.trans hq4).trans hq5⟩
        | false =>
          have hsq := snd_no hsx
          have HN := Lib.hid (fl_next HNO.out (show flB (B s) k = false by unfold flB; rw [HX.out]; exact hsx))
          clear hsx
          go_wp2_with (first | (go_at_call 156; refine (c_l2Flip s k _ h64 hlt HB.out).mono ?_; rintro e w4 ⟨rfl, hq4⟩; rw [HX.out]) | (go_at_call 136; refine (c_l4Syndrome_l x _ h12x h64x HFB.out).mono ?_; rintro e w5 ⟨rfl, hq5⟩))
          go_roundw
          case rel => exact ⟨k + 1, by omega, by go_num, HN.out, (hq.trans hq4).trans hq5⟩
          case measure => simp [intOf]; omega
      · have HF := Lib.hid (rb_none HS.out (fun j hj => HNO.out j (by omega)))
        go_wp2
        go_ret3
        exact ⟨ret_sib (by rw [(rb_no HF.out).1]; rfl) (by rw [(rb_no HF.out).2]) HF.out.symm, hq⟩
theorem c_specRepairBit (s : ByteArray) (w : World) (hs : s.size ≤ maxLen) : Calls Try.prog 75 #[.string s] w fun e w' => e = .returned (.tuple #[.string (bs (rbS (B s))), .int .i64 (rbI (B s)), .bool (rbOk (B s))]) ∧ Qt w w' := by
  cases hc : crOk (B s) with
  | false =>
    have HC := Lib.hid hc
    have HF := Lib.hid (rb_bad hc)
    clear hc
    go_enter Try.func75, Try.ntmps75
    go_wp2_with (go_at_call 134; refine (c_l4Good s _ hs).mono ?_; rintro e w' ⟨rfl, rfl⟩; rw [HC.out])
    go_ret3
    exact ⟨ret_sib (by rw [(rb_no HF.out).1]; rfl) (by rw [(rb_no HF.out).2]) HF.out.symm, Qt.refl _⟩
  | true =>
    have HC := Lib.hid hc
    clear hc
    go_enter Try.func75, Try.ntmps75
    go_wp2_with (first | (go_at_call 134; refine (c_l4Good s _ hs).mono ?_; rintro e w' ⟨rfl, rfl⟩; rw [HC.out]) | (go_at_call 175; refine (c_l4Repair s _ HC.out).mono ?_; rintro e w1 ⟨rfl, hq1⟩))
    go_ret3
    exact ⟨rfl, hq1⟩
end Go.Proofs.Ytfbanjmooknafaa
