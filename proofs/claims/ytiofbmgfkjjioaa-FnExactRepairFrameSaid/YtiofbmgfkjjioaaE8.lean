/-
  Contracts of DecodeFrame and the reference's RepairFrame, and the walks of their laws.
-/
import Derived.Test.YtiofbmgfkjjioaaE7
namespace Go.Proofs.Ytiofbmgfkjjioaa
open Go.RowKit
set_option linter.unusedSimpArgs false
set_option linter.unusedVariables false
set_option maxRecDepth 100000

def dfOk (l : List UInt8) : Bool := rfU l && (sndB (bhL l) && doOk (bhL l))
def dfA (l : List UInt8) : Int := if dfOk l = true then doA (bhL l) else 0
def dfB (l : List UInt8) : Int := if dfOk l = true then doB (bhL l) else 0
def dfC (l : List UInt8) : Int := if dfOk l = true then doC (bhL l) else 0
theorem df_no {l : List UInt8} (h : dfOk l = false) : dfA l = 0 ∧ dfB l = 0 ∧ dfC l = 0 := by unfold dfA dfB dfC; rw [h]; exact ⟨rfl, rfl, rfl⟩
theorem df_yes {l : List UInt8} (h : dfOk l = true) : dfA l = doA (bhL l) ∧ dfB l = doB (bhL l) ∧ dfC l = doC (bhL l) := by unfold dfA dfB dfC; rw [h]; exact ⟨rfl, rfl, rfl⟩
theorem df_ret_no {l : List UInt8} (h : dfOk l = false) : Ending.returned (.tuple #[.agg #[.int .i64 0, .int .i64 0, .int .i64 0], .bool false]) = .returned (.tuple #[fr (dfA l) (dfB l) (dfC l), .bool (dfOk l)]) := by
  rw [h, (df_no h).1, (df_no h).2.1, (df_no h).2.2]
theorem df_parts {l : List UInt8} : dfOk l = true ↔ rfU l = true ∧ sndB (bhL l) = true ∧ doOk (bhL l) = true := by unfold dfOk; rw [Bool.and_eq_true, Bool.and_eq_true]
theorem rf_parts {l : List UInt8} : rfOk l = true ↔ rfU l = true ∧ rbOk (bhL l) = true ∧ doOk (rbS (bhL l)) = true := by unfold rfOk; rw [Bool.and_eq_true, Bool.and_eq_true]
theorem df_of {l : List UInt8} (h : rfOk l = true) (hi : rfI l < 0) : dfOk l = true ∧ dfA l = rfA l ∧ dfB l = rfB l ∧ dfC l = rfC l := by
  obtain ⟨h1, h2, h3⟩ := rf_parts.1 h
  obtain ⟨y1, y2, y3, y4⟩ := rf_yes h
  have hs : sndB (bhL l) = true := by
    cases hs : sndB (bhL l) with
    | true => rfl
    | false =>
      rw [y4] at hi
      unfold rbI at hi
      rw [h2, hs, if_pos rfl, if_neg (by simp)] at hi
      omega
  obtain ⟨_, hr, _⟩ := rb_sound (rfU_cr h1).1 hs
  rw [hr] at h3 y1 y2 y3
  have hd := df_parts.2 ⟨h1, hs, h3⟩
  obtain ⟨d1, d2, d3⟩ := df_yes hd
  exact ⟨hd, by rw [d1, y1], by rw [d2, y2], by rw [d3, y3]⟩
theorem df_to {l : List UInt8} (h : dfOk l = true) : rfOk l = true ∧ rfI l < 0 := by
  obtain ⟨h1, h2, h3⟩ := df_parts.1 h
  obtain ⟨ho, hr, hi⟩ := rb_sound (rfU_cr h1).1 h2
  have hk := rf_parts.2 ⟨h1, ho, by rw [hr]; exact h3⟩
  refine ⟨hk, ?_⟩
  rw [(rf_yes hk).2.2.2, hi]; omega
theorem df_bad1 {l : List UInt8} (h : rfOk l = false) : dfOk l = false := by
  rw [Bool.eq_false_iff]; intro e
  rw [(df_to e).1] at h; cases h
theorem df_bad2 {l : List UInt8} (h : 0 ≤ rfI l) : dfOk l = false := by
  rw [Bool.eq_false_iff]; intro e
  have := (df_to e).2
  omega
set_option maxHeartbeats 1000000 in
theorem c_implDecodeFrame (s : ByteArray) (w : World) (hs : s.size ≤ maxLen) : Calls Try.prog 37 #[.string s] w fun e w' => e = .returned (.tuple #[fr (dfA (B s)) (dfB (B s)) (dfC (B s)), .bool (dfOk (B s))]) ∧ Below w.heap.size w w' := by
  obtain ⟨W0, hW0⟩ : ∃ W0, w.alloc (.cells #[.int .i64 0, .int .i64 0, .int .i64 0] 36) = W0 := ⟨_, rfl⟩
  have hB0 : Below w.heap.size w W0 := by rw [← hW0]; exact (Below.refl _ _).alloc (Nat.le_refl _) _
  have HX0 := Lib.hid (show Box W0 w.heap.size 0 0 0 by rw [← hW0]; exact Box.new w 0 0 0 _)
  have HD := Lib.hid (fun W => c_implRepairFrame s W hs)
  obtain ⟨a, ha⟩ : ∃ a, rfA (B s) = a := ⟨_, rfl⟩
  obtain ⟨b, hb⟩ : ∃ b, rfB (B s) = b := ⟨_, rfl⟩
  obtain ⟨c, hc⟩ : ∃ c, rfC (B s) = c := ⟨_, rfl⟩
  obtain ⟨i, hi⟩ : ∃ i, rfI (B s) = i := ⟨_, rfl⟩
  obtain ⟨o, ho⟩ : ∃ o, rfOk (B s) = o := ⟨_, rfl⟩
  rw [ha, hb, hc, hi, ho] at HD
  have HA := Lib.hid ha
  have HB := Lib.hid hb
  have HC := Lib.hid hc
  have HI := Lib.hid hi
  have HO := Lib.hid ho
  clear ha hb hc hi ho
  go_enter Try.func37, Try.ntmps37
  go_wp2_with fail
  clear hW0
  refine (HD.out _).mono ?_
  rintro e w3 ⟨rfl, hb3⟩
  have HX3 := Lib.hid (HX0.out.below hb3)
  have hB3 := hB0.trans (hb3.mono hB0.size)
  have hA3 : Below w3.heap.size w3 (w3.alloc (.cells #[.int .i64 a, .int .i64 b, .int .i64 c] 36)) := (Below.refl _ _).alloc (Nat.le_refl _) _
  have HY3 := Lib.hid (Box.new w3 a b c 36)
  have HX4 := Lib.hid (HX3.out.below hA3)
  have hB4 := hB3.trans (hA3.mono hB3.size)
  clear hb3 hA3
  obtain ⟨W4, hW4⟩ : ∃ W4, w3.alloc (.cells #[.int .i64 a, .int .i64 b, .int .i64 c] 36) = W4 := ⟨_, rfl⟩
  rw [hW4] at HX4 hB4 HY3
  cases o with
  | false =>
    have HF := Lib.hid (df_bad1 HO.out)
    obtain ⟨⟨k0, k1, k2⟩, f0, f1, f2⟩ := HX4.out
    go_wp2
    exact bodyPost_ret (v := .tuple #[.agg #[.int .i64 0, .int .i64 0, .int .i64 0], .bool false]) (by simp [results, Try.results37, go_sem, k0, k1, k2]) rfl ⟨df_ret_no HF.out, ((hB4.setCell (Nat.le_refl _) _).setCell (Nat.le_refl _) _).setCell (Nat.le_refl _) _⟩
  | true =>
    by_cases h0 : 0 ≤ i
    · have HF := Lib.hid (df_bad2 (l := B s) (by rw [HI.out]; exact h0))
      obtain ⟨⟨k0, k1, k2⟩, f0, f1, f2⟩ := HX4.out
      go_wp2
      exact bodyPost_ret (v := .tuple #[.agg #[.int .i64 0, .int .i64 0, .int .i64 0], .bool false]) (by simp [results, Try.results37, go_sem, k0, k1, k2]) rfl ⟨df_ret_no HF.out, ((hB4.setCell (Nat.le_refl _) _).setCell (Nat.le_refl _) _).setCell (Nat.le_refl _) _⟩
    · have HT := Lib.hid (df_of HO.out (by rw [HI.out]; omega))
      obtain ⟨⟨k0, k1, k2⟩, f0, f1, f2⟩ := HX4.out
      obtain ⟨⟨q0, q1, q2⟩, _, _, _⟩ := HY3.out
      go_wp2
      exact bodyPost_ret (v := .tuple #[.agg #[.int .i64 a, .int .i64 b, .int .i64 c], .bool true]) (by simp [results, Try.results37, go_sem, k0, k1, k2]) rfl ⟨by rw [HT.out.1, HT.out.2.1, HT.out.2.2.1, HT.out.2.2.2, HA.out, HB.out, HC.out], ((hB4.setCell (Nat.le_refl _) _).setCell (Nat.le_refl _) _).setCell (Nat.le_refl _) _⟩
theorem c_specRepairFrame (s : ByteArray) (w : World) (hs : s.size ≤ maxLen) : Calls Try.prog 39 #[.string s] w fun e w' => e = .returned (.tuple #[fr (rfA (B s)) (rfB (B s)) (rfC (B s)), .int .i64 (rfI (B s)), .bool (rfOk (B s))]) ∧ Below w.heap.size w w' := by
  have HD := Lib.hid (fun W => c_l5Repair s W hs)
  obtain ⟨a, ha⟩ : ∃ a, rfA (B s) = a := ⟨_, rfl⟩
  obtain ⟨b, hb⟩ : ∃ b, rfB (B s) = b := ⟨_, rfl⟩
  obtain ⟨c, hc⟩ : ∃ c, rfC (B s) = c := ⟨_, rfl⟩
  obtain ⟨i, hi⟩ : ∃ i, rfI (B s) = i := ⟨_, rfl⟩
  obtain ⟨o, ho⟩ : ∃ o, rfOk (B s) = o := ⟨_, rfl⟩
  rw [ha, hb, hc, hi, ho] at HD ⊢
  clear ha hb hc hi ho
  obtain ⟨W0, hW0⟩ : ∃ W0, w.alloc (.cells #[.int .i64 0, .int .i64 0, .int .i64 0] 36) = W0 := ⟨_, rfl⟩
  have hB0 : Below w.heap.size w W0 := by rw [← hW0]; exact (Below.refl _ _).alloc (Nat.le_refl _) _
  have HX0 := Lib.hid (show Box W0 w.heap.size 0 0 0 by rw [← hW0]; exact Box.new w 0 0 0 _)
  go_enter Try.func39, Try.ntmps39
  go_wp2_with fail
  clear hW0
  refine (HD.out _).mono ?_
  rintro e w1 ⟨rfl, hb1⟩
  obtain ⟨⟨k0, k1, k2⟩, f0, f1, f2⟩ := HX0.out.below hb1
  have hB1 := hB0.trans (hb1.mono hB0.size)
  clear hb1
  go_wp2
  exact bodyPost_ret (v := .tuple #[.agg #[.int .i64 a, .int .i64 b, .int .i64 c], .int .i64 i, .bool o]) (by simp [results, Try.results39, go_sem, k0, k1, k2]) rfl ⟨rfl, ((hB1.setCell (Nat.le_refl _) _).setCell (Nat.le_refl _) _).setCell (Nat.le_refl _) _⟩
set_option maxHeartbeats 1000000 in
theorem c_specDecodeFrame (s : ByteArray) (w : World) (hs : s.size ≤ maxLen) : Calls Try.prog 36 #[.string s] w fun e w' => e = .returned (.tuple #[fr (dfA (B s)) (dfB (B s)) (dfC (B s)), .bool (dfOk (B s))]) ∧ Below w.heap.size w w' := by
  obtain ⟨W0, hW0⟩ : ∃ W0, w.alloc (.cells #[.int .i64 0, .int .i64 0, .int .i64 0] 36) = W0 := ⟨_, rfl⟩
  have hB0 : Below w.heap.size w W0 := by rw [← hW0]; exact (Below.refl _ _).alloc (Nat.le_refl _) _
  have HX0 := Lib.hid (show Box W0 w.heap.size 0 0 0 by rw [← hW0]; exact Box.new w 0 0 0 _)
  obtain ⟨x, hx⟩ : ∃ x, bhL (B s) = x := ⟨_, rfl⟩
  obtain ⟨u, hu⟩ : ∃ u, P.unhexOk (B s) = u := ⟨_, rfl⟩
  have HX := Lib.hid hx
  have HU := Lib.hid hu
  have hxs := bs_size x
  clear hx hu
  go_enter Try.func36, Try.ntmps36
  go_wp2_with fail
  clear hW0
  refine (c_l2FromHex s _ hs).mono ?_
  rintro e w1 ⟨rfl, hq1⟩
  have hb1 : Below W0.heap.size W0 w1 := hq1.below _
  clear hq1
  rw [HX.out, HU.out]
  have HX1 := Lib.hid (HX0.out.below hb1)
  have hB1 := hB0.trans (hb1.mono hB0.size)
  clear hb1
  cases u with
  | false =>
    have HF := Lib.hid (show dfOk (B s) = false by unfold dfOk rfU; rw [HU.out]; rfl)
    obtain ⟨⟨k0, k1, k2⟩, f0, f1, f2⟩ := HX1.out
    go_wp2
    exact bodyPost_ret (v := .tuple #[.agg #[.int .i64 0, .int .i64 0, .int .i64 0], .bool false]) (by simp [results, Try.results36, go_sem, k0, k1, k2]) rfl ⟨df_ret_no HF.out, ((hB1.setCell (Nat.le_refl _) _).setCell (Nat.le_refl _) _).setCell (Nat.le_refl _) _⟩
  | true =>
    by_cases h56 : x.length = 56
    · have hq : (((bs x).size : Int) != 56) = false := by rw [bne_eq_false_iff_eq]; omega
      have HRU := Lib.hid (show rfU (B s) = true by unfold rfU; rw [HU.out, HX.out, decide_eq_true h56]; rfl)
      have hcr := rfU_cr HRU.out
      rw [HX.out] at hcr
      have HCR := Lib.hid hcr
      have HYS := Lib.hid (show (bs x).size = 56 by rw [hxs, h56])
      have hx12 : 12 ≤ x.length := by omega
      have hx64 : x.length ≤ 64 := by omega
      clear hcr h56 hxs
      by_cases h0 : P.synN x = 0
      · have e0 : ((P.synN x : Int) != 0) = false := by rw [bne_eq_false_iff_eq]; omega
        have HSN := Lib.hid (show sndB x = true by unfold sndB; rw [decide_eq_true h0])
        obtain ⟨a, ha⟩ : ∃ a, doA x = a := ⟨_, rfl⟩
        obtain ⟨b, hb⟩ : ∃ b, doB x = b := ⟨_, rfl⟩
        obtain ⟨c, hc⟩ : ∃ c, doC x = c := ⟨_, rfl⟩
        obtain ⟨v, hv⟩ : ∃ v, doOk x = v := ⟨_, rfl⟩
        have HD := Lib.hid (fun W => c_l5Decode (bs x) W HYS.out HCR.out.2.2)
        rw [show B (bs x) = x from rfl, ha, hb, hc, hv] at HD
        have HR := Lib.hid (show dfOk (B s) = v ∧ dfA (B s) = a ∧ dfB (B s) = b ∧ dfC (B s) = c by
          have h1 : dfOk (B s) = v := by unfold dfOk; rw [HRU.out, HX.out, HSN.out, hv]; rfl
          refine ⟨h1, ?_⟩
          cases v with
          | true =>
            obtain ⟨d1, d2, d3⟩ := df_yes h1
            rw [d1, d2, d3, HX.out]; exact ⟨ha, hb, hc⟩
          | false =>
            obtain ⟨d1, d2, d3⟩ := df_no h1
            obtain ⟨m1, m2, m3⟩ := do_no hv
            rw [d1, d2, d3, ← ha, ← hb, ← hc, m1, m2, m3]; exact ⟨rfl, rfl, rfl⟩)
        clear ha hb hc hv h0
        go_wp2_with fail
        refine (c_l4Syndrome_l x _ hx12 hx64 HCR.out.2.2).mono ?_
        rintro e w2 ⟨rfl, hq2⟩
        have hb2 : Below w1.heap.size w1 w2 := hq2.below _
        clear hq2
        have HX2 := Lib.hid (HX1.out.below hb2)
        have hB2 := hB1.trans (hb2.mono hB1.size)
        clear hb2
        go_wp2_with fail
        refine (HD.out _).mono ?_
        rintro e w3 ⟨rfl, hb3⟩
        obtain ⟨⟨k0, k1, k2⟩, f0, f1, f2⟩ := HX2.out.below hb3
        have hB3 := hB2.trans (hb3.mono hB2.size)
        clear hb3
        go_wp2
        exact bodyPost_ret (v := .tuple #[.agg #[.int .i64 a, .int .i64 b, .int .i64 c], .bool v]) (by simp [results, Try.results36, go_sem, k0, k1, k2]) rfl ⟨by rw [HR.out.1, HR.out.2.1, HR.out.2.2.1, HR.out.2.2.2], ((hB3.setCell (Nat.le_refl _) _).setCell (Nat.le_refl _) _).setCell (Nat.le_refl _) _⟩
      · have e0 : ((P.synN x : Int) != 0) = true := by rw [bne_iff_ne]; omega
        have HF := Lib.hid (show dfOk (B s) = false by
          rw [Bool.eq_false_iff]; intro e
          have := (df_parts.1 e).2.1
          rw [HX.out] at this
          unfold sndB at this
          rw [decide_eq_false h0] at this; cases this)
        clear h0
        go_wp2_with fail
        refine (c_l4Syndrome_l x _ hx12 hx64 HCR.out.2.2).mono ?_
        rintro e w2 ⟨rfl, hq2⟩
        have hb2 : Below w1.heap.size w1 w2 := hq2.below _
        clear hq2
        have HX2 := Lib.hid (HX1.out.below hb2)
        have hB2 := hB1.trans (hb2.mono hB1.size)
        clear hb2
        obtain ⟨⟨k0, k1, k2⟩, f0, f1, f2⟩ := HX2.out
        go_wp2
        exact bodyPost_ret (v := .tuple #[.agg #[.int .i64 0, .int .i64 0, .int .i64 0], .bool false]) (by simp [results, Try.results36, go_sem, k0, k1, k2]) rfl ⟨df_ret_no HF.out, ((hB2.setCell (Nat.le_refl _) _).setCell (Nat.le_refl _) _).setCell (Nat.le_refl _) _⟩
    · have hq : (((bs x).size : Int) != 56) = true := by rw [bne_iff_ne]; omega
      have HF := Lib.hid (show dfOk (B s) = false by unfold dfOk rfU; rw [HX.out, decide_eq_false h56, Bool.and_false]; rfl)
      clear h56 hxs
      obtain ⟨⟨k0, k1, k2⟩, f0, f1, f2⟩ := HX1.out
      go_wp2
      exact bodyPost_ret (v := .tuple #[.agg #[.int .i64 0, .int .i64 0, .int .i64 0], .bool false]) (by simp [results, Try.results36, go_sem, k0, k1, k2]) rfl ⟨df_ret_no HF.out, ((hB1.setCell (Nat.le_refl _) _).setCell (Nat.le_refl _) _).setCell (Nat.le_refl _) _⟩
theorem c_eqFrame2 (a b c : Int) (w : World) : Calls Try.prog 38 #[fr a b c, fr a b c] w fun e w' => e = .returned (.bool true) ∧ Below w.heap.size w w' := by
  unfold fr
  go_enter Try.func38, Try.ntmps38
  go_wp2
  go_ret
  exact ⟨rfl, ((Below.refl _ _).alloc (Nat.le_refl _) _).alloc (by simp) _⟩
theorem l_FnExactRepairFrame (s : ByteArray) (hs : s.size ≤ maxLen) (w : World) : Calls Try.prog 14 #[.string s] w fun e w' => e = .returned (.bool true) ∧ Below w.heap.size w w' := by
  have HS := Lib.hid hs
  unfold maxLen at hs
  by_cases h : s.size ≤ 1048576
  · have HC := Lib.hid (fun W => c_specRepairFrame s W HS.out)
    have HD := Lib.hid (fun W => c_implRepairFrame s W HS.out)
    obtain ⟨a, ha⟩ : ∃ a, rfA (B s) = a := ⟨_, rfl⟩
    obtain ⟨b, hb⟩ : ∃ b, rfB (B s) = b := ⟨_, rfl⟩
    obtain ⟨c, hc⟩ : ∃ c, rfC (B s) = c := ⟨_, rfl⟩
    obtain ⟨i, hi⟩ : ∃ i, rfI (B s) = i := ⟨_, rfl⟩
    obtain ⟨o, ho⟩ : ∃ o, rfOk (B s) = o := ⟨_, rfl⟩
    rw [ha, hb, hc, hi, ho] at HC HD
    clear ha hb hc ho hi
    go_enter Try.func14, Try.ntmps14
    go_wp2_with fail
    refine (HC.out _).mono ?_
    rintro e w1 ⟨rfl, hb1⟩
    have hA1 : Below w1.heap.size w1 (w1.alloc (.cells #[.int .i64 a, .int .i64 b, .int .i64 c] 36)) := (Below.refl _ _).alloc (Nat.le_refl _) _
    have HX1 := Lib.hid (Box.new w1 a b c 36)
    obtain ⟨W1, hW1⟩ : ∃ W1, w1.alloc (.cells #[.int .i64 a, .int .i64 b, .int .i64 c] 36) = W1 := ⟨_, rfl⟩
    rw [hW1] at hA1 HX1
    have hB1 := hb1.trans (hA1.mono hb1.size)
    go_wp2_with fail
    clear hW1
    refine (HD.out _).mono ?_
    rintro e w2 ⟨rfl, hb2⟩
    have HX2 := Lib.hid (HX1.out.below hb2)
    have hB2 := hB1.trans (hb2.mono hB1.size)
    have hA2 : Below w2.heap.size w2 (w2.alloc (.cells #[.int .i64 a, .int .i64 b, .int .i64 c] 36)) := (Below.refl _ _).alloc (Nat.le_refl _) _
    have HY2 := Lib.hid (Box.new w2 a b c 36)
    have HX3 := Lib.hid (HX2.out.below hA2)
    obtain ⟨W2, hW2⟩ : ∃ W2, w2.alloc (.cells #[.int .i64 a, .int .i64 b, .int .i64 c] 36) = W2 := ⟨_, rfl⟩
    rw [hW2] at hA2 HY2 HX3
    have hB3 := hB2.trans (hA2.mono hB2.size)
    obtain ⟨⟨k0, k1, k2⟩, _, _, _⟩ := HX3.out
    obtain ⟨⟨j0, j1, j2⟩, _, _, _⟩ := HY2.out
    clear hb1 hA1 hb2 hA2
    go_wp2_with fail
    clear hW2
    refine (c_eqFrame2 a b c _).mono ?_
    rintro e w3 ⟨rfl, hb3⟩
    have hB4 := hB3.trans (hb3.mono hB3.size)
    clear hb3
    go_wp2
    go_ret
    exact ⟨rfl, hB4⟩
  · go_enter Try.func14, Try.ntmps14
    go_wp2
    go_ret
    exact ⟨rfl, Below.refl _ _⟩
theorem l_FnExactDecodeFrame (s : ByteArray) (hs : s.size ≤ maxLen) (w : World) : Calls Try.prog 13 #[.string s] w fun e w' => e = .returned (.bool true) ∧ Below w.heap.size w w' := by
  have HS := Lib.hid hs
  unfold maxLen at hs
  by_cases h : s.size ≤ 1048576
  · have HC := Lib.hid (fun W => c_specDecodeFrame s W HS.out)
    have HD := Lib.hid (fun W => c_implDecodeFrame s W HS.out)
    obtain ⟨a, ha⟩ : ∃ a, dfA (B s) = a := ⟨_, rfl⟩
    obtain ⟨b, hb⟩ : ∃ b, dfB (B s) = b := ⟨_, rfl⟩
    obtain ⟨c, hc⟩ : ∃ c, dfC (B s) = c := ⟨_, rfl⟩
    obtain ⟨i, hi⟩ : ∃ i, rfI (B s) = i := ⟨_, rfl⟩
    obtain ⟨o, ho⟩ : ∃ o, dfOk (B s) = o := ⟨_, rfl⟩
    rw [ha, hb, hc, ho] at HC HD
    clear ha hb hc ho hi
    go_enter Try.func13, Try.ntmps13
    go_wp2_with fail
    refine (HC.out _).mono ?_
    rintro e w1 ⟨rfl, hb1⟩
    have hA1 : Below w1.heap.size w1 (w1.alloc (.cells #[.int .i64 a, .int .i64 b, .int .i64 c] 36)) := (Below.refl _ _).alloc (Nat.le_refl _) _
    have HX1 := Lib.hid (Box.new w1 a b c 36)
    obtain ⟨W1, hW1⟩ : ∃ W1, w1.alloc (.cells #[.int .i64 a, .int .i64 b, .int .i64 c] 36) = W1 := ⟨_, rfl⟩
    rw [hW1] at hA1 HX1
    have hB1 := hb1.trans (hA1.mono hb1.size)
    go_wp2_with fail
    clear hW1
    refine (HD.out _).mono ?_
    rintro e w2 ⟨rfl, hb2⟩
    have HX2 := Lib.hid (HX1.out.below hb2)
    have hB2 := hB1.trans (hb2.mono hB1.size)
    have hA2 : Below w2.heap.size w2 (w2.alloc (.cells #[.int .i64 a, .int .i64 b, .int .i64 c] 36)) := (Below.refl _ _).alloc (Nat.le_refl _) _
    have HY2 := Lib.hid (Box.new w2 a b c 36)
    have HX3 := Lib.hid (HX2.out.below hA2)
    obtain ⟨W2, hW2⟩ : ∃ W2, w2.alloc (.cells #[.int .i64 a, .int .i64 b, .int .i64 c] 36) = W2 := ⟨_, rfl⟩
    rw [hW2] at hA2 HY2 HX3
    have hB3 := hB2.trans (hA2.mono hB2.size)
    obtain ⟨⟨k0, k1, k2⟩, _, _, _⟩ := HX3.out
    obtain ⟨⟨j0, j1, j2⟩, _, _, _⟩ := HY2.out
    clear hb1 hA1 hb2 hA2
    go_wp2_with fail
    clear hW2
    refine (c_eqFrame2 a b c _).mono ?_
    rintro e w3 ⟨rfl, hb3⟩
    have hB4 := hB3.trans (hb3.mono hB3.size)
    clear hb3
    go_wp2
    go_ret
    exact ⟨rfl, hB4⟩
  · go_enter Try.func13, Try.ntmps13
    go_wp2
    go_ret
    exact ⟨rfl, Below.refl _ _⟩
end Go.Proofs.Ytiofbmgfkjjioaa
