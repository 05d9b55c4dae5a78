/-
  Contracts of the program's WeakestFlips.
-/
import Derived.Test.YtfbanjmooknafaaQR
namespace Go.Proofs.Ytfbanjmooknafaa
open Go.RowKit
set_option linter.unusedSimpArgs false
set_option linter.unusedVariables false
set_option maxRecDepth 100000

def fl2B (l : List UInt8) (i k : Nat) : Bool := sndB (P.flipL (P.flipL l i) k)
def w1B (l : List UInt8) : Bool := (List.range l.length).any (flB l)
def w2B (l : List UInt8) : Bool := (List.range l.length).any fun i => (List.range i).any (fl2B l i)
def wfI (l : List UInt8) : Int := if crOk l = true then (if sndB l = true then 0 else if w1B l = true then 1 else if w2B l = true then 2 else 3) else 0
theorem wf_bad {l : List UInt8} (h : crOk l = false) : wfI l = 0 := by unfold wfI; rw [h]; rfl
theorem wf_0 {l : List UInt8} (h : crOk l = true) (h0 : sndB l = true) : wfI l = 0 := by unfold wfI; rw [h, h0]; rfl
theorem wf_1 {l : List UInt8} (h : crOk l = true) (h0 : sndB l = false) (h1 : w1B l = true) : wfI l = 1 := by unfold wfI; rw [h, h0, h1]; rfl
theorem wf_2 {l : List UInt8} (h : crOk l = true) (h0 : sndB l = false) (h1 : w1B l = false) (h2 : w2B l = true) : wfI l = 2 := by unfold wfI; rw [h, h0, h1, h2]; rfl
theorem wf_3 {l : List UInt8} (h : crOk l = true) (h0 : sndB l = false) (h1 : w1B l = false) (h2 : w2B l = false) : wfI l = 3 := by unfold wfI; rw [h, h0, h1, h2]; rfl
theorem w1_yes {l : List UInt8} {i : Nat} (hi : i < l.length) (h : flB l i = true) : w1B l = true := List.any_eq_true.2 ⟨i, List.mem_range.2 hi, h⟩
theorem w1_no {l : List UInt8} (h : ∀ i, i < l.length → flB l i = false) : w1B l = false := by
  rw [Bool.eq_false_iff]; intro e
  obtain ⟨i, hi, hf⟩ := List.any_eq_true.1 e
  rw [h i (List.mem_range.1 hi)] at hf; cases hf
theorem w2_yes {l : List UInt8} {i k : Nat} (hi : i < l.length) (hk : k < i) (h : fl2B l i k = true) : w2B l = true :=
  List.any_eq_true.2 ⟨i, List.mem_range.2 hi, List.any_eq_true.2 ⟨k, List.mem_range.2 hk, h⟩⟩
theorem w2_no {l : List UInt8} (h : ∀ i, i < l.length → ∀ k, k < i → fl2B l i k = false) : w2B l = false := by
  rw [Bool.eq_false_iff]; intro e
  obtain ⟨i, hi, hf⟩ := List.any_eq_true.1 e
  obtain ⟨k, hk, hf⟩ := List.any_eq_true.1 hf
  rw [h i (List.mem_range.1 hi) k (List.mem_range.1 hk)] at hf; cases hf
theorem fl2_next {l : List UInt8} {i k : Nat} (h : ∀ j, j < k → fl2B l i j = false) (h2 : fl2B l i k = false) : ∀ j, j < k + 1 → fl2B l i j = false := fun j hj => by
  rcases Nat.lt_or_ge j k with h3 | h3
  · exact h j h3
  · have : j = k := by omega
    rw [this]; exact h2
theorem fl2_row {l : List UInt8} {p : Nat} (h : ∀ i, i < p → ∀ k, k < i → fl2B l i k = false) (h2 : ∀ k, k < p → fl2B l p k = false) : ∀ i, i < p + 1 → ∀ k, k < i → fl2B l i k = false := fun i hi => by
  rcases Nat.lt_or_ge i p with h3 | h3
  · exact h i h3
  · have : i = p := by omega
    rw [this]; exact h2
theorem iter_start {w w1 : World} {s : ByteArray} (hb1 : Below w.heap.size w w1) : (w1.iter s 0).heap[w1.heap.size]? = some (.stringIter s 0) ∧ Below w.heap.size w (w1.iter s 0) ∧ w.heap.size ≤ w1.heap.size :=
  ⟨World.iter_heap w1 s 0, hb1.alloc hb1.size _, hb1.size⟩
theorem c_flip_l (x : List UInt8) (i : Nat) (w : World) (hs : x.length ≤ 64) (hi : i < x.length) (hbits : x.all P.bitB = true) : Calls Try.prog 138 #[.string (bs x), .int .i64 i] w fun e w' => e = .returned (.string (bs (P.flipL x i))) ∧ Below w.heap.size w w' := c_flip (bs x) i w (by rw [bs_size]; exact hs) (by rw [bs_size]; exact hi) hbits
set_option maxHeartbeats 1000000 in
theorem c_implWeakestFlips (s : ByteArray) (w : World) (hs : s.size ≤ maxLen) : Calls Try.prog 19 #[.string s] w fun e w' => e = .returned (.tuple #[.int .i64 (wfI (B s)), .bool (crOk (B s))]) ∧ Below w.heap.size w w' := by
  have hl := B_len s
  cases hc : crOk (B s) with
  | false =>
    have HC := Lib.hid hc
    have HF := Lib.hid (wf_bad hc)
    clear hc
    go_enter Try.func19, Try.ntmps19
    go_wp2_with (go_at_call 132; refine (c_isCarrier s _ hs).mono ?_; rintro e w' ⟨rfl, rfl⟩; rw [HC.out])
    go_ret2
    exact ⟨ret_ib (by rw [HF.out]) rfl, Below.refl _ _⟩
  | true =>
    have HC := Lib.hid hc
    obtain ⟨⟨h64, hbits⟩, h12⟩ := crOk_iff.1 hc
    rw [hl] at h64 h12
    have HB := Lib.hid hbits
    cases hsn : sndB (B s) with
    | true =>
      have HR := Lib.hid (wf_0 hc hsn)
      have HS := Lib.hid hsn
      clear hc hbits hsn
      go_enter Try.func19, Try.ntmps19
      go_wp2_with (first | (go_at_call 132; refine (c_isCarrier s _ hs).mono ?_; rintro e w' ⟨rfl, rfl⟩; rw [HC.out]) | (go_at_call 137; refine (c_isSound s _ h12 h64 HB.out).mono ?_; rintro e w1 ⟨rfl, hb1⟩; rw [HS.out]))
      go_ret2
      exact ⟨ret_ib (by rw [HR.out]) rfl, hb1⟩
    | false =>
      have HS := Lib.hid hsn
      clear hc hbits hsn
      go_enter Try.func19, Try.ntmps19
      go_wp2_with (first | (go_at_call 132; refine (c_isCarrier s _ hs).mono ?_; rintro e w' ⟨rfl, rfl⟩; rw [HC.out]) | (go_at_call 137; refine (c_isSound s _ h12 h64 HB.out).mono ?_; rintro e w1 ⟨rfl, hb1⟩; rw [HS.out]))
      obtain ⟨hit, hbi, hiw⟩ := iter_start (s := s) hb1
      obtain ⟨it, hI⟩ : ∃ it, w1.heap.size = it := ⟨_, rfl⟩
      rw [hI] at hit hiw ⊢
      obtain ⟨W2, hW2⟩ : ∃ W2, w1.iter s 0 = W2 := ⟨_, rfl⟩
      rw [hW2] at hit hbi ⊢
      have HIT := Lib.hid hit
      clear hit hI hW2 hb1
      go_loopw [4] (fun _ wr => ∃ pos : Nat, pos ≤ s.size ∧ wr.heap[it]? = some (.stringIter s pos) ∧ (∀ j, j < pos → flB (B s) j = false) ∧ Below w.heap.size w wr) (fun _ wr => s.size - wr.iterPos it)
      case atStart => exact ⟨0, Nat.zero_le _, HIT.out, fun j hj => absurd hj (by omega), hbi⟩
      case round =>
        obtain ⟨pos, hp, hk, hno, hb⟩ := hrel
        have HK := Lib.hid hk
        have HNO := Lib.hid hno
        clear hno
        by_cases hlt : pos < s.size
        · have has : (s[pos]'hlt).toNat < 128 := by have := bit_ascii HB.out (k := pos) (by omega); rw [B_get s pos hlt] at this; omega
          have hnx := fun ty => Lib.run_next_ascii_at (P := Try.prog) wr it s pos ty hk hlt has
          obtain ⟨W3, hW3⟩ : ∃ W3, wr.iterAt it s (pos + 1) = W3 := ⟨_, rfl⟩
          have HI3 := Lib.hid (show W3.heap[it]? = some (.stringIter s (pos + 1)) by rw [← hW3]; exact Lib.iterAt_heap wr it s pos (pos + 1) HK.out)
          have hb3 : Below w.heap.size w W3 := by rw [← hW3]; exact Lib.below_iterAt hb (by omega) s (pos + 1)
          rw [hW3] at hnx
          have hfl := P.flipL_len (B s) pos
          rw [hl] at hfl
          have HFB := Lib.hid (P.flipL_bits HB.out pos)
          obtain ⟨x, hx⟩ : ∃ x, P.flipL (B s) pos = x := ⟨_, rfl⟩
          rw [hx] at hfl HFB
          have HX := Lib.hid hx
          have h12x : 12 ≤ x.length := by omega
          have h64x : x.length ≤ 64 := by omega
          clear hk hW3 hx hfl
          cases hsx : sndB x with
          | true =>
            have HSX := Lib.hid hsx
            have HR := Lib.hid (wf_1 HC.out HS.out (w1_yes (i := pos) (by omega) (by unfold flB; rw [HX.out]; exact hsx)))
            clear hsx
            go_wp2_with fail
            refine (c_flip s pos _ h64 hlt HB.out).mono ?_
            rintro e w4 ⟨rfl, hb4⟩
            rw [HX.out]
            go_wp2_with fail
            refine (c_isSound_l x _ h12x h64x HFB.out).mono ?_
            rintro e w5 ⟨rfl, hb5⟩
            rw [HSX.out]
            have hbf := hb3.trans ((hb4.trans (hb5.mono hb4.size)).mono hb3.size)
            clear hb4 hb5
            go_wp2
            go_ret2
            exact ⟨ret_ib (by rw [HR.out]) rfl, hbf⟩
          | false =>
            have HSX := Lib.hid hsx
            have HN := Lib.hid (fl_next HNO.out (show flB (B s) pos = false by unfold flB; rw [HX.out]; exact hsx))
            clear hsx
            go_wp2_with fail
            refine (c_flip s pos _ h64 hlt HB.out).mono ?_
            rintro e w4 ⟨rfl, hb4⟩
            rw [HX.out]
            have HI4 := Lib.hid (iter_below HI3.out hb4)
            go_wp2_with fail
            refine (c_isSound_l x _ h12x h64x HFB.out).mono ?_
            rintro e w5 ⟨rfl, hb5⟩
            rw [HSX.out]
            have HI5 := Lib.hid (iter_below HI4.out hb5)
            have hbf := hb3.trans ((hb4.trans (hb5.mono hb4.size)).mono hb3.size)
            clear hb4 hb5
            go_wp2
            go_roundw
            case rel => exact ⟨pos + 1, by omega, HI5.out, HN.out, hbf⟩
            case measure => simp [World.iterPos, HI5.out, HK.out]; omega
        · have hnx := fun ty => Lib.run_next_end_at (P := Try.prog) wr it s pos ty hk hlt
          have HW1 := Lib.hid (w1_no (l := B s) (fun j hj => HNO.out j (by omega)))
          go_wp2
          obtain ⟨hit2, hbi2, hiw2⟩ := iter_start (s := s) hb
          obtain ⟨it2, hI2⟩ : ∃ it2, wr.heap.size = it2 := ⟨_, rfl⟩
          rw [hI2] at hit2 hiw2 ⊢
          obtain ⟨V2, hV2⟩ : ∃ V2, wr.iter s 0 = V2 := ⟨_, rfl⟩
          rw [hV2] at hit2 hbi2 ⊢
          have HIT2 := Lib.hid hit2
          clear hit2 hI2 hV2 hnx hk hb hbi
          go_loopw [5, 6] (fun _ _ wq => ∃ pos : Nat, pos ≤ s.size ∧ wq.heap[it2]? = some (.stringIter s pos) ∧ (∀ i, i < pos → ∀ k, k < i → fl2B (B s) i k = false) ∧ Below w.heap.size w wq) (fun _ _ wq => s.size - wq.iterPos it2)
          case atStart => exact ⟨0, Nat.zero_le _, HIT2.out, fun j hj => absurd hj (by omega), hbi2⟩
          case round =>
            obtain ⟨pos, hp, hk, hno2, hb⟩ := hrel
            have HK2 := Lib.hid hk
            have HNO2 := Lib.hid hno2
            clear hno2
            by_cases hlt : pos < s.size
            · have has : (s[pos]'hlt).toNat < 128 := by have := bit_ascii HB.out (k := pos) (by omega); rw [B_get s pos hlt] at this; omega
              have hnx := fun ty => Lib.run_next_ascii_at (P := Try.prog) wr it2 s pos ty hk hlt has
              obtain ⟨W3, hW3⟩ : ∃ W3, wr.iterAt it2 s (pos + 1) = W3 := ⟨_, rfl⟩
              have HI3 := Lib.hid (show W3.heap[it2]? = some (.stringIter s (pos + 1)) by rw [← hW3]; exact Lib.iterAt_heap wr it2 s pos (pos + 1) HK2.out)
              have hb3 : Below w.heap.size w W3 := by rw [← hW3]; exact Lib.below_iterAt hb (by omega) s (pos + 1)
              rw [hW3] at hnx
              have hfl := P.flipL_len (B s) pos
              rw [hl] at hfl
              have HFB := Lib.hid (P.flipL_bits HB.out pos)
              obtain ⟨x, hx⟩ : ∃ x, P.flipL (B s) pos = x := ⟨_, rfl⟩
              rw [hx] at hfl HFB
              have HX := Lib.hid hx
              have h12x : 12 ≤ x.length := by omega
              have h64x : x.length ≤ 64 := by omega
              have hpx : pos < x.length := by omega
              clear hk hW3 hx hfl
              go_wp2
              go_loopw [6] (fun i wv => ∃ k : Nat, k ≤ pos ∧ i = .int .i64 k ∧ wv.heap[it2]? = some (.stringIter s (pos + 1)) ∧ (∀ j, j < k → fl2B (B s) pos j = false) ∧ Below w.heap.size w wv) (fun i _ => pos - (intOf i).toNat)
              case atStart => exact ⟨0, Nat.zero_le _, rfl, HI3.out, fun j hj => absurd hj (by omega), hb3⟩
              case round =>
                obtain ⟨k, hkp, rfl, hkv, hno3, hb4⟩ := hrel
                have HKV := Lib.hid hkv
                have HNO3 := Lib.hid hno3
                clear hno3 hkv
                by_cases hlk : k < pos
                · have hyl := P.flipL_len x k
                  have HYB := Lib.hid (P.flipL_bits HFB.out k)
                  obtain ⟨y, hy⟩ : ∃ y, P.flipL x k = y := ⟨_, rfl⟩
                  rw [hy] at hyl HYB
                  have HY := Lib.hid hy
                  have h12y : 12 ≤ y.length := by omega
                  have h64y : y.length ≤ 64 := by omega
                  have hkx : k < x.length := by omega
                  clear hy hyl
                  cases hsy : sndB y with
                  | true =>
                    have HSY := Lib.hid hsy
                    have HR := Lib.hid (wf_2 HC.out HS.out HW1.out (w2_yes (i := pos) (k := k) (by omega) hlk (by unfold fl2B; rw [HX.out, HY.out]; exact hsy)))
                    clear hsy
                    go_wp2_with fail
                    refine (c_flip s pos _ h64 hlt HB.out).mono ?_
                    rintro e v4 ⟨rfl, hc4⟩
                    rw [HX.out]
                    go_wp2_with fail
                    refine (c_flip_l x k _ h64x hkx HFB.out).mono ?_
                    rintro e v5 ⟨rfl, hc5⟩
                    rw [HY.out]
                    go_wp2_with fail
                    refine (c_isSound_l y _ h12y h64y HYB.out).mono ?_
                    rintro e v6 ⟨rfl, hc6⟩
                    rw [HSY.out]
                    have hbf := hb4.trans (((hc4.trans (hc5.mono hc4.size)).trans (hc6.mono (Nat.le_trans hc4.size hc5.size))).mono hb4.size)
                    clear hc4 hc5 hc6
                    go_wp2
                    go_ret2
                    exact ⟨ret_ib (by rw [HR.out]) rfl, hbf⟩
                  | false =>
                    have HSY := Lib.hid hsy
                    have HN := Lib.hid (fl2_next HNO3.out (show fl2B (B s) pos k = false by unfold fl2B; rw [HX.out, HY.out]; exact hsy))
                    clear hsy
                    go_wp2_with fail
                    refine (c_flip s pos _ h64 hlt HB.out).mono ?_
                    rintro e v4 ⟨rfl, hc4⟩
                    rw [HX.out]
                    have HI4 := Lib.hid (iter_below HKV.out hc4)
                    go_wp2_with fail
                    refine (c_flip_l x k _ h64x hkx HFB.out).mono ?_
                    rintro e v5 ⟨rfl, hc5⟩
                    rw [HY.out]
                    have HI5 := Lib.hid (iter_below HI4.out hc5)
                    go_wp2_with fail
                    refine (c_isSound_l y _ h12y h64y HYB.out).mono ?_
                    rintro e v6 ⟨rfl, hc6⟩
                    rw [HSY.out]
                    have HI6 := Lib.hid (iter_below HI5.out hc6)
                    have hbf := hb4.trans (((hc4.trans (hc5.mono hc4.size)).trans (hc6.mono (Nat.le_trans hc4.size hc5.size))).mono hb4.size)
                    clear hc4 hc5 hc6
                    go_wp2
                    go_roundw
                    case rel => exact ⟨k + 1, by omega, by go_num, HI6.out, HN.out, hbf⟩
                    case measure => simp [intOf]; omega
                · have HN2 := Lib.hid (fl2_row HNO2.out (fun j hj => HNO3.out j (by omega)))
                  go_wp2
                  go_roundw
                  case rel => exact ⟨pos + 1, by omega, HKV.out, HN2.out, hb4⟩
                  case measure => simp [World.iterPos, HKV.out, HK2.out]; omega
            · have hnx := fun ty => Lib.run_next_end_at (P := Try.prog) wr it2 s pos ty hk hlt
              have HR := Lib.hid (wf_3 HC.out HS.out HW1.out (w2_no (l := B s) (fun i hi => HNO2.out i (by omega))))
              go_wp2
              go_ret2
              exact ⟨ret_ib (by rw [HR.out]) rfl, hb⟩
end Go.Proofs.Ytfbanjmooknafaa
