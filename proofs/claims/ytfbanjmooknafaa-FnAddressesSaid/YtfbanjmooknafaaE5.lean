/-
  Contracts of EncodeFrame and FrameDistance, and the walks of their laws.
-/
import Derived.Test.YtfbanjmooknafaaG
import Derived.Test.YtfbanjmooknafaaQJ
namespace Go.Proofs.Ytfbanjmooknafaa
open Go.RowKit
set_option linter.unusedSimpArgs false
set_option linter.unusedVariables false
set_option maxRecDepth 100000

/-- the bits of a frame -/
def fm0 (a b c : Nat) : List UInt8 := (P.bitsL a 4 ++ P.bitsL b 16) ++ P.bitsL c 24
def fmL (a b c : Nat) : List UInt8 := fm0 a b c ++ P.bitsL (P.parN (fm0 a b c)) 12
def efS (a b c : Int) : List UInt8 := if frOk a b c = true then P.hexL (fmL a.toNat b.toNat c.toNat) else []
theorem fm0_len (a b c : Nat) : (fm0 a b c).length = 44 := by unfold fm0; rw [List.length_append, List.length_append, P.bitsL_len, P.bitsL_len, P.bitsL_len]
theorem fm0_bits (a b c : Nat) : (fm0 a b c).all P.bitB = true := by unfold fm0; rw [List.all_append, List.all_append, P.bitsL_bits, P.bitsL_bits, P.bitsL_bits]; rfl
theorem fmL_len (a b c : Nat) : (fmL a b c).length = 56 := by unfold fmL; rw [List.length_append, fm0_len, P.bitsL_len]
theorem fmL_bits (a b c : Nat) : (fmL a b c).all P.bitB = true := by unfold fmL; rw [List.all_append, fm0_bits, P.bitsL_bits]; rfl
theorem ef_no {a b c : Int} (h : frOk a b c = false) : efS a b c = [] := by unfold efS; rw [h]; rfl
theorem ef_yes {a b c : Nat} (h : frOk a b c = true) : efS a b c = P.hexL (fmL a b c) := by unfold efS; rw [h]; rfl
theorem fr_nat {a b c : Int} (h : frOk a b c = true) : ∃ x y z : Nat, a = (x : Int) ∧ b = (y : Int) ∧ c = (z : Int) ∧ (1 ≤ x ∧ x ≤ 4) ∧ (1 ≤ y ∧ y ≤ 65535) ∧ z ≤ 16777215 := by
  obtain ⟨⟨a1, a2⟩, ⟨b1, b2⟩, c1, c2⟩ := P.frB_iff.1 (show P.frB a b c = true from h)
  exact ⟨a.toNat, b.toNat, c.toNat, by omega, by omega, by omega, by omega, by omega, by omega⟩
theorem c_bitsOf_w (n wd : Nat) (i : Int) (w : World) (hn : n ≤ 1073741823) (hwd : wd ≤ 64) (hi : i = (wd : Int)) : Calls Try.prog 165 #[.int .i64 n, .int .i64 i] w fun e w' => e = .returned (.string (bs (P.bitsL n wd))) ∧ Below w.heap.size w w' := by rw [hi]; exact c_bitsOf n wd w hn hwd
theorem c_l2Of_w (n wd : Nat) (i : Int) (w : World) (hn : n ≤ 1073741823) (hwd : wd ≤ 64) (hi : i = (wd : Int)) : Calls Try.prog 135 #[.int .i64 n, .int .i64 i] w fun e w' => e = .returned (.string (bs (P.bitsL n wd))) ∧ w = w' := by rw [hi]; exact c_l2Of n wd w hn hwd
set_option maxHeartbeats 1000000 in
theorem c_frameBits (a b c : Nat) (w : World) (ha : a ≤ 15) (hb1 : b ≤ 65535) (hc1 : c ≤ 16777215) : Calls Try.prog 177 #[fr a b c] w fun e w' => e = .returned (.string (bs (fmL a b c))) ∧ Below w.heap.size w w' := by
  unfold fr
  obtain ⟨x1, hx1⟩ : ∃ x1, P.bitsL a 4 = x1 := ⟨_, rfl⟩
  obtain ⟨x2, hx2⟩ : ∃ x2, P.bitsL b 16 = x2 := ⟨_, rfl⟩
  obtain ⟨x3, hx3⟩ : ∃ x3, P.bitsL c 24 = x3 := ⟨_, rfl⟩
  obtain ⟨s1, hs1⟩ : ∃ s1, x1 ++ x2 = s1 := ⟨_, rfl⟩
  obtain ⟨z, hz⟩ : ∃ z, bs (s1 ++ x3) = z := ⟨_, rfl⟩
  have l1 : x1.length = 4 := by rw [← hx1, P.bitsL_len]
  have l2 : x2.length = 16 := by rw [← hx2, P.bitsL_len]
  have l3 : x3.length = 24 := by rw [← hx3, P.bitsL_len]
  have hBz : B z = fm0 a b c := by rw [← hz, ← hs1, ← hx1, ← hx2, ← hx3]; rfl
  have hzs : z.size = 44 := by rw [← B_len, hBz, fm0_len]
  have HBZ := Lib.hid (show (B z).all P.bitB = true by rw [hBz]; exact fm0_bits a b c)
  have HR := Lib.hid (show B z ++ P.bitsL (P.parN (B z)) 12 = fmL a b c by rw [hBz]; rfl)
  have hadd1 : ∀ W, (Op.stringOp .add (bs x1) (bs x2)).run Try.prog W = .ok (.string (bs s1)) W := fun W => by rw [← hs1]; exact run_add W _ _ (by omega)
  have hadd2 : ∀ W, (Op.stringOp .add (bs s1) (bs x3)).run Try.prog W = .ok (.string z) W := fun W => by rw [← hz]; exact run_add W _ _ (by rw [← hs1, List.length_append]; omega)
  have hadd3 := fun W => run_par W z (P.parN (B z)) (by omega)
  have HZS := Lib.hid (show z.size ≤ 64 by omega)
  have HX1 := Lib.hid hx1
  have HX2 := Lib.hid hx2
  have HX3 := Lib.hid hx3
  clear hx1 hx2 hx3 hs1 hz hBz hzs l1 l2 l3
  obtain ⟨W0, hW0⟩ : ∃ W0, w.alloc (.cells #[.int .i64 a, .int .i64 b, .int .i64 c] 57) = W0 := ⟨_, rfl⟩
  have hB0 : Below w.heap.size w W0 := by rw [← hW0]; exact (Below.refl _ _).alloc (Nat.le_refl _) _
  have hc0 : W0.cell? ⟨w.heap.size, 0, none⟩ = some (.int .i64 a) ∧ W0.cell? ⟨w.heap.size, 1, none⟩ = some (.int .i64 b) ∧ W0.cell? ⟨w.heap.size, 2, none⟩ = some (.int .i64 c) := by
    rw [← hW0]; exact ⟨by simp, by simp, by simp⟩
  go_enter Try.func177, Try.ntmps177
  go_wp2_with fail
  clear hW0
  obtain ⟨hc00, hc01, hc02⟩ := hc0
  go_region_held3 (fun w' => w'.cell? ⟨w.heap.size, 0, none⟩ = some (.int .i64 a) ∧ w'.cell? ⟨w.heap.size, 1, none⟩ = some (.int .i64 b) ∧ w'.cell? ⟨w.heap.size, 2, none⟩ = some (.int .i64 c))
    (first | go_keep | (exact box_keep hbA ⟨hc00, hc01, hc02⟩) | (exact box_keep hbB (by assumption)) | (exact box_keep hbC (by assumption)) | (exact box_keep hbD (by assumption)))
    (first
      | (go_at_call_of 165 (Value.int IntKind.i64 (a : Int)); (refine (c_bitsOf_w a 4 _ _ (by omega) (by omega) rfl).mono ?_; rintro e wA ⟨rfl, hqA⟩; rw [HX1.out]; have hbA := hqA; clear hqA))
      | (go_at_call_of 165 (Value.int IntKind.i64 (b : Int)); (refine (c_bitsOf_w b 16 _ _ (by omega) (by omega) rfl).mono ?_; rintro e wB ⟨rfl, hqB⟩; rw [HX2.out]; have hbB := hqB; clear hqB))
      | (go_at_call_of 165 (Value.int IntKind.i64 (c : Int)); (refine (c_bitsOf_w c 24 _ _ (by omega) (by omega) rfl).mono ?_; rintro e wC ⟨rfl, hqC⟩; rw [HX3.out]; have hbC := hqC; clear hqC))
      | (fail))
  have hBA := hB0.trans (Below.mono (show Below W0.heap.size W0 wA from ⟨hbA.os, hbA.tape, hbA.output, hbA.size, hbA.block⟩) hB0.size)
  have hBB := hBA.trans (hbB.mono hBA.size)
  have hBC := hBB.trans (hbC.mono hBB.size)
  clear hbA hbB hbC
  go_wp2_with (go_at_call 148; refine (c_parityOf z _ HZS.out HBZ.out).mono ?_; rintro e wD ⟨rfl, hbD⟩)
  go_ret
  exact ⟨ret_bs HR.out, hBC.trans (hbD.mono hBC.size)⟩
set_option maxHeartbeats 1000000 in
theorem c_l5Bits (a b c : Nat) (w : World) (ha : a ≤ 15) (hb1 : b ≤ 65535) (hc1 : c ≤ 16777215) : Calls Try.prog 180 #[fr a b c] w fun e w' => e = .returned (.string (bs (fmL a b c))) ∧ Below w.heap.size w w' := by
  unfold fr
  obtain ⟨x1, hx1⟩ : ∃ x1, P.bitsL a 4 = x1 := ⟨_, rfl⟩
  obtain ⟨x2, hx2⟩ : ∃ x2, P.bitsL b 16 = x2 := ⟨_, rfl⟩
  obtain ⟨x3, hx3⟩ : ∃ x3, P.bitsL c 24 = x3 := ⟨_, rfl⟩
  obtain ⟨s1, hs1⟩ : ∃ s1, x1 ++ x2 = s1 := ⟨_, rfl⟩
  obtain ⟨z, hz⟩ : ∃ z, bs (s1 ++ x3) = z := ⟨_, rfl⟩
  have l1 : x1.length = 4 := by rw [← hx1, P.bitsL_len]
  have l2 : x2.length = 16 := by rw [← hx2, P.bitsL_len]
  have l3 : x3.length = 24 := by rw [← hx3, P.bitsL_len]
  have hBz : B z = fm0 a b c := by rw [← hz, ← hs1, ← hx1, ← hx2, ← hx3]; rfl
  have hzs : z.size = 44 := by rw [← B_len, hBz, fm0_len]
  have HBZ := Lib.hid (show (B z).all P.bitB = true by rw [hBz]; exact fm0_bits a b c)
  have HR := Lib.hid (show B z ++ P.bitsL (P.parN (B z)) 12 = fmL a b c by rw [hBz]; rfl)
  have hadd1 : ∀ W, (Op.stringOp .add (bs x1) (bs x2)).run Try.prog W = .ok (.string (bs s1)) W := fun W => by rw [← hs1]; exact run_add W _ _ (by omega)
  have hadd2 : ∀ W, (Op.stringOp .add (bs s1) (bs x3)).run Try.prog W = .ok (.string z) W := fun W => by rw [← hz]; exact run_add W _ _ (by rw [← hs1, List.length_append]; omega)
  have hadd3 := fun W => run_par W z (P.parN (B z)) (by omega)
  have HZS := Lib.hid (show z.size ≤ 64 by omega)
  have HX1 := Lib.hid hx1
  have HX2 := Lib.hid hx2
  have HX3 := Lib.hid hx3
  clear hx1 hx2 hx3 hs1 hz hBz hzs l1 l2 l3
  obtain ⟨W0, hW0⟩ : ∃ W0, w.alloc (.cells #[.int .i64 a, .int .i64 b, .int .i64 c] 57) = W0 := ⟨_, rfl⟩
  have hB0 : Below w.heap.size w W0 := by rw [← hW0]; exact (Below.refl _ _).alloc (Nat.le_refl _) _
  have hc0 : W0.cell? ⟨w.heap.size, 0, none⟩ = some (.int .i64 a) ∧ W0.cell? ⟨w.heap.size, 1, none⟩ = some (.int .i64 b) ∧ W0.cell? ⟨w.heap.size, 2, none⟩ = some (.int .i64 c) := by
    rw [← hW0]; exact ⟨by simp, by simp, by simp⟩
  go_enter Try.func180, Try.ntmps180
  go_wp2_with fail
  clear hW0
  obtain ⟨hc00, hc01, hc02⟩ := hc0
  go_region_held3 (fun w' => w'.cell? ⟨w.heap.size, 0, none⟩ = some (.int .i64 a) ∧ w'.cell? ⟨w.heap.size, 1, none⟩ = some (.int .i64 b) ∧ w'.cell? ⟨w.heap.size, 2, none⟩ = some (.int .i64 c))
    (first | go_keep | (exact box_keep hbA ⟨hc00, hc01, hc02⟩) | (exact box_keep hbB (by assumption)) | (exact box_keep hbC (by assumption)) | (exact box_keep hbD (by assumption)))
    (first
      | (go_at_call_of 135 (Value.int IntKind.i64 (a : Int)); (refine (c_l2Of_w a 4 _ _ (by omega) (by omega) rfl).mono ?_; rintro e wA ⟨rfl, hqA⟩; rw [HX1.out]; have hbA := same_belowF hqA; clear hqA))
      | (go_at_call_of 135 (Value.int IntKind.i64 (b : Int)); (refine (c_l2Of_w b 16 _ _ (by omega) (by omega) rfl).mono ?_; rintro e wB ⟨rfl, hqB⟩; rw [HX2.out]; have hbB := same_belowF hqB; clear hqB))
      | (go_at_call_of 135 (Value.int IntKind.i64 (c : Int)); (refine (c_l2Of_w c 24 _ _ (by omega) (by omega) rfl).mono ?_; rintro e wC ⟨rfl, hqC⟩; rw [HX3.out]; have hbC := same_belowF hqC; clear hqC))
      | (go_at_call 174; (refine (c_l4Add z _ HZS.out).mono ?_; rintro e wD ⟨rfl, hqD⟩; have hbD := same_belowF hqD; clear hqD)))
  have hBA := hB0.trans (Below.mono (show Below W0.heap.size W0 wA from ⟨hbA.os, hbA.tape, hbA.output, hbA.size, hbA.block⟩) hB0.size)
  have hBB := hBA.trans (hbB.mono hBA.size)
  have hBC := hBB.trans (hbC.mono hBB.size)
  clear hbA hbB hbC
  go_wp2_with fail
  go_ret
  exact ⟨ret_bs HR.out, hBC.trans (hbD.mono hBC.size)⟩
theorem fm_hex (a b c : Nat) : (fmL a b c).length ≤ 64 ∧ (fmL a b c).length % 4 = 0 := by rw [fmL_len]; exact ⟨by omega, rfl⟩
theorem c_implEncodeFrame (a b c : Int) (w : World) : Calls Try.prog 113 #[fr a b c] w fun e w' => e = .returned (.tuple #[.string (bs (efS a b c)), .bool (frOk a b c)]) ∧ Below w.heap.size w w' := by
  cases h : frOk a b c with
  | false =>
    have HF := Lib.hid h
    clear h
    go_enter Try.func113, Try.ntmps113
    go_wp2_with fail
    refine (c_implIsValidFrame a b c _).mono ?_
    rintro e w1 ⟨rfl, hb1⟩
    rw [HF.out]
    go_wp2
    go_ret2
    exact ⟨ret_sb (by rw [ef_no HF.out]; rfl) rfl, box_below hb1⟩
  | true =>
    obtain ⟨a, b, c, rfl, rfl, rfl, ha, hb, hc⟩ := fr_nat h
    have HT := Lib.hid h
    have hfh := fm_hex a b c
    have HFB := Lib.hid (fmL_bits a b c)
    clear h
    go_enter Try.func113, Try.ntmps113
    go_wp2_with fail
    refine (c_implIsValidFrame a b c _).mono ?_
    rintro e w1 ⟨rfl, hb1⟩
    rw [HT.out]
    obtain ⟨k0, k1, k2⟩ := box3 hb1
    go_wp2_with fail
    refine (c_frameBits a b c _ (by omega) (by omega) (by omega)).mono ?_
    rintro e w2 ⟨rfl, hb2⟩
    go_wp2_with fail
    refine (c_hexOf_l _ _ hfh.1 hfh.2 HFB.out).mono ?_
    rintro e w' ⟨rfl, rfl⟩
    have hbf := box_below (hb1.trans (hb2.mono hb1.size))
    clear hb1 hb2 k0 k1 k2
    go_wp2
    go_ret2
    exact ⟨ret_sb (by rw [ef_yes HT.out]) rfl, hbf⟩
theorem c_l5Hex (a b c : Nat) (w : World) (ha : a ≤ 15) (hb1 : b ≤ 65535) (hc1 : c ≤ 16777215) : Calls Try.prog 198 #[fr a b c] w fun e w' => e = .returned (.string (bs (P.hexL (fmL a b c)))) ∧ Below w.heap.size w w' := by
  have hfh := fm_hex a b c
  have HFB := Lib.hid (fmL_bits a b c)
  go_enter Try.func198, Try.ntmps198
  go_wp2_with fail
  refine (c_l5Bits a b c _ (by omega) (by omega) (by omega)).mono ?_
  rintro e w2 ⟨rfl, hb2⟩
  go_wp2_with fail
  refine (c_l2Hex_l _ _ hfh.1 hfh.2 HFB.out).mono ?_
  rintro e w' ⟨rfl, rfl⟩
  have hbf := box_below hb2
  clear hb2
  go_wp2
  go_ret
  exact ⟨rfl, hbf⟩
theorem c_specEncodeFrame (a b c : Int) (w : World) : Calls Try.prog 114 #[fr a b c] w fun e w' => e = .returned (.tuple #[.string (bs (efS a b c)), .bool (frOk a b c)]) ∧ Below w.heap.size w w' := by
  cases h : frOk a b c with
  | false =>
    have HF := Lib.hid h
    clear h
    go_enter Try.func114, Try.ntmps114
    go_wp2_with fail
    refine (c_l5Good a b c _).mono ?_
    rintro e w1 ⟨rfl, hb1⟩
    rw [HF.out]
    go_wp2
    go_ret2
    exact ⟨ret_sb (by rw [ef_no HF.out]; rfl) rfl, box_below hb1⟩
  | true =>
    obtain ⟨a, b, c, rfl, rfl, rfl, ha, hb, hc⟩ := fr_nat h
    have HT := Lib.hid h
    clear h
    go_enter Try.func114, Try.ntmps114
    go_wp2_with fail
    refine (c_l5Good a b c _).mono ?_
    rintro e w1 ⟨rfl, hb1⟩
    rw [HT.out]
    obtain ⟨k0, k1, k2⟩ := box3 hb1
    go_wp2_with fail
    refine (c_l5Hex a b c _ (by omega) (by omega) (by omega)).mono ?_
    rintro e w2 ⟨rfl, hb2⟩
    have hbf := box_below (hb1.trans (hb2.mono hb1.size))
    clear hb1 hb2 k0 k1 k2
    go_wp2
    go_ret2
    exact ⟨ret_sb (by rw [ef_yes HT.out]) rfl, hbf⟩
end Go.Proofs.Ytfbanjmooknafaa
