/-
  Contracts of DecodeFrame and the reference's RepairFrame, and the walks of their laws.
-/
import Derived.Test.YtfbanjmooknafaaE7
namespace Go.Proofs.Ytfbanjmooknafaa
open Go.RowKit
set_option linter.unusedSimpArgs false
set_option linter.unusedVariables false
set_option maxRecDepth 100000

def dfOk (l : List UInt8) : Bool := rfU l && (sndB (bhL l) && doOk (bhL l))
def dfA (l : List UInt8) : Int := if dfOk l = true then doA (bhL l) else 0
def dfB (l : List UInt8) : Int := if dfOk l = true then doB (bhL l) else 0
def dfC (l : List UInt8) : Int := if dfOk l = true then doC (bhL l) else 0
theorem df_no {l : List UInt8} (h : dfOk l = false) : dfA l = 0 ∧ dfB l = 0 ∧ dfC l = 0 := by unfold dfA dfB dfC; rw [h]; exact ⟨rfl, rfl, rfl⟩
theorem df_yes {l : List UInt8} (h : dfOk l = true) : dfA l = doA (bhL l) ∧ dfB l = doB (bhL l) ∧ dfC l = doC (bhL l) := by unfold dfA dfB dfC; rw [h]; exact ⟨rfl, rfl, rfl⟩
theorem df_ret_no {l : List UInt8} (h : dfOk l = false) : Ending.returned (.tuple #[.agg #[.int .i64 0, .int .i64 0, .int .i64 0], .bool false]) = .returned (.tuple #[fr (dfA l) (dfB l) (dfC l), .bool (dfOk l)]) := by
  rw [h, (df_no h).1, (df_no h).2.1, (df_no h).2.2]
theorem df_parts {l : List UInt8} : dfOk l = true ↔ rfU l = true ∧ sndB (bhL l) = true ∧ doOk (bhL l) = true := by unfold dfOk; rw [Bool.and_eq_true, Bool.and_eq_true]
theorem rf_parts {l : List UInt8} : rfOk l = true ↔ rfU l = true ∧ rbOk (bhL l) = true ∧ doOk (rbS (bhL l)) = true := by unfold rfOk; rw [Bool.and_eq_true, Bool.and_eq_true]
theorem df_of {l : List UInt8} (h : rfOk l = true) (hi : rfI l < 0) : dfOk l = true ∧ dfA l = rfA l ∧ dfB l = rfB l ∧ dfC l = rfC l := by
  obtain ⟨h1, h2, h3⟩ := rf_parts.1 h
  obtain ⟨y1, y2, y3, y4⟩ := rf_yes h
  have hs : sndB (bhL l) = true := by
    cases hs : sndB (bhL l) with
    | true => rfl
    | false =>
      rw [y4] at hi
      unfold rbI at hi
      rw [h2, hs, if_pos rfl, if_neg (by simp)] at hi
      omega
  obtain ⟨_, hr, _⟩ := rb_sound (rfU_cr h1).1 hs
  rw [hr] at h3 y1 y2 y3
  have hd := df_parts.2 ⟨h1, hs, h3⟩
  obtain ⟨d1, d2, d3⟩ := df_yes hd
  exact ⟨hd, by rw [d1, y1], by rw [d2, y2], by rw [d3, y3]⟩
theorem df_to {l : List UInt8} (h : dfOk l = true) : rfOk l = true ∧ rfI l < 0 := by
  obtain ⟨h1, h2, h3⟩ := df_parts.1 h
  obtain ⟨ho, hr, hi⟩ := rb_sound (rfU_cr h1).1 h2
  have hk := rf_parts.2 ⟨h1, ho, by rw [hr]; exact h3⟩
  refine ⟨hk, ?_⟩
  rw [(rf_yes hk).2.2.2, hi]; omega
theorem df_bad1 {l : List UInt8} (h : rfOk l = false) : dfOk l = false := by
  rw [Bool.eq_false_iff]; intro e
  rw [(df_to e).1] at h; cases h
theorem df_bad2 {l : List UInt8} (h : 0 ≤ rfI l) : dfOk l = false := by
  rw [Bool.eq_false_iff]; intro e
  have := (df_to e).2
  omega
set_option maxHeartbeats 1000000 in
theorem c_implDecodeFrame (s : ByteArray) (w : World) (hs : s.size ≤ maxLen) : Calls Try.prog 116 #[.string s] w fun e w' => e = .returned (.tuple #[fr (dfA (B s)) (dfB (B s)) (dfC (B s)), .bool (dfOk (B s))]) ∧ Below w.heap.size w w' := by
  obtain ⟨W0, hW0⟩ : ∃ W0, w.alloc (.cells #[.int .i64 0, .int .i64 0, .int .i64 0] 57) = W0 := ⟨_, rfl⟩
  have hB0 : Below w.heap.size w W0 := by rw [← hW0]; exact (Below.refl _ _).alloc (Nat.le_refl _) _
  have HX0 := Lib.hid (show Box W0 w.heap.size 0 0 0 by rw [← hW0]; exact Box.new w 0 0 0 _)
  have HD := Lib.hid (fun W => c_implRepairFrame s W hs)
  obtain ⟨a, ha⟩ : ∃ a, rfA (B s) = a := ⟨_, rfl⟩
  obtain ⟨b, hb⟩ : ∃ b, rfB (B s) = b := ⟨_, rfl⟩
  obtain ⟨c, hc⟩ : ∃ c, rfC (B s) = c := ⟨_, rfl⟩
  obtain ⟨i, hi⟩ : ∃ i, rfI (B s) = i := ⟨_, rfl⟩
  obtain ⟨o, ho⟩ : ∃ o, rfOk (B s) = o := ⟨_, rfl⟩
  rw [ha, hb, hc, hi, ho] at HD
  have HA := Lib.hid ha
  have HB := Lib.hid hb
  have HC := Lib.hid hc
  have HI := Lib.hid hi
  have HO := Lib.hid ho
  clear ha hb hc hi ho
  go_enter Try.func116, Try.ntmps116
  go_wp2_with fail
  clear hW0
  refine (HD.out _).mono ?_
  rintro e w3 ⟨rfl, hb3⟩
  have HX3 := Lib.hid (HX0.out.below hb3)
  have hB3 := hB0.trans (hb3.mono hB0.size)
  have hA3 : Below w3.heap.size w3 (w3.alloc (.cells #[.int .i64 a, .int .i64 b, .int .i64 c] 57)) := (Below.refl _ _).alloc (Nat.le_refl _) _
  have HY3 := Lib.hid (Box.new w3 a b c 57)
  have HX4 := Lib.hid (HX3.out.below hA3)
  have hB4 := hB3.trans (hA3.mono hB3.size)
  clear hb3 hA3
  obtain ⟨W4, hW4⟩ : ∃ W4, w3.alloc (.cells #[.int .i64 a, .int .i64 b, .int .i64 c] 57) = W4 := ⟨_, rfl⟩
  rw [hW4] at HX4 hB4 HY3
  cases o with
  | false =>
    have HF := Lib.hid (df_bad1 HO.out)
    obtain ⟨⟨k0, k1, k2⟩, f0, f1, f2⟩ := HX4.out
    go_wp2
    exact bodyPost_ret (v := .tuple #[.agg #[.int .i64 0, .int .i64 0, .int .i64 0], .bool false]) (by simp [results, Try.results116, go_sem, k0, k1, k2]) rfl ⟨df_ret_no HF.out, ((hB4.setCell (Nat.le_refl _) _).setCell (Nat.le_refl _) _).setCell (Nat.le_refl _) _⟩
  | true =>
    by_cases h0 : 0 ≤ i
    · have HF := Lib.hid (df_bad2 (l := B s) (by rw [HI.out]; exact h0))
      obtain ⟨⟨k0, k1, k2⟩, f0, f1, f2⟩ := HX4.out
      go_wp2
      exact bodyPost_ret (v := .tuple #[.agg #[.int .i64 0, .int .i64 0, .int .i64 0], .bool false]) (by simp [results, Try.results116, go_sem, k0, k1, k2]) rfl ⟨df_ret_no HF.out, ((hB4.setCell (Nat.le_refl _) _).setCell (Nat.le_refl _) _).setCell (Nat.le_refl _) _⟩
    · have HT := Lib.hid (df_of HO.out (by rw [HI.out]; omega))
      obtain ⟨⟨k0, k1, k2⟩, f0, f1, f2⟩ := HX4.out
      obtain ⟨⟨q0, q1, q2⟩, _, _, _⟩ := HY3.out
      go_wp2
      exact bodyPost_ret (v := .tuple #[.agg #[.int .i64 a, .int .i64 b, .int .i64 c], .bool true]) (by simp [results, Try.results116, go_sem, k0, k1, k2]) rfl ⟨by rw [HT.out.1, HT.out.2.1, HT.out.2.2.1, HT.out.2.2.2, HA.out, HB.out, HC.out], ((hB4.setCell (Nat.le_refl _) _).setCell (Nat.le_refl _) _).setCell (Nat.le_refl _) _⟩
theorem c_specRepairFrame (s : ByteArray) (w : World) (hs : s.size ≤ maxLen) : Calls Try.prog 121 #[.string s] w fun e w' => e = .returned (.tuple #[fr (rfA (B s)) (rfB (B s)) (rfC (B s)), .int .i64 (rfI (B s)), .bool (rfOk (B s))]) ∧ Below w.heap.size w w' := by
  have HD := Lib.hid (fun W => c_l5Repair s W hs)
  obtain ⟨a, ha⟩ : ∃ a, rfA (B s) = a := ⟨_, rfl⟩
  obtain ⟨b, hb⟩ : ∃ b, rfB (B s) = b := ⟨_, rfl⟩
  obtain ⟨c, hc⟩ : ∃ c, rfC (B s) = c := ⟨_, rfl⟩
  obtain ⟨i, hi⟩ : ∃ i, rfI (B s) = i := ⟨_, rfl⟩
  obtain ⟨o, ho⟩ : ∃ o, rfOk (B s) = o := ⟨_, rfl⟩
  rw [ha, hb, hc, hi, ho] at HD ⊢
  clear ha hb hc hi ho
  obtain ⟨W0, hW0⟩ : ∃ W0, w.alloc (.cells #[.int .i64 0, .int .i64 0, .int .i64 0] 57) = W0 := ⟨_, rfl⟩
  have hB0 : Below w.heap.size w W0 := by rw [← hW0]; exact (Below.refl _ _).alloc (Nat.le_refl _) _
  have HX0 := Lib.hid (show Box W0 w.heap.size 0 0 0 by rw [← hW0]; exact Box.new w 0 0 0 _)
  go_enter Try.func121, Try.ntmps121
  go_wp2_with fail
  clear hW0
  refine (HD.out _).mono ?_
  rintro e w1 ⟨rfl, hb1⟩
  obtain ⟨⟨k0, k1, k2⟩, f0, f1, f2⟩ := HX0.out.below hb1
  have hB1 := hB0.trans (hb1.mono hB0.size)
  clear hb1
  go_wp2
  exact bodyPost_ret (v := .tuple #[.agg #[.int .i64 a, .int .i64 b, .int .i64 c], .int .i64 i, .bool o]) (by simp [results, Try.results121, go_sem, k0, k1, k2]) rfl ⟨rfl, ((hB1.setCell (Nat.le_refl _) _).setCell (Nat.le_refl _) _).setCell (Nat.le_refl _) _⟩
theorem c_eqFrame2 (a b c : Int) (w : World) : Calls Try.prog 208 #[fr a b c, fr a b c] w fun e w' => e = .returned (.bool true) ∧ Below w.heap.size w w' := by
  unfold fr
  go_enter Try.func208, Try.ntmps208
  go_wp2
  go_ret
  exact ⟨rfl, ((Below.refl _ _).alloc (Nat.le_refl _) _).alloc (by simp) _⟩
end Go.Proofs.Ytfbanjmooknafaa
