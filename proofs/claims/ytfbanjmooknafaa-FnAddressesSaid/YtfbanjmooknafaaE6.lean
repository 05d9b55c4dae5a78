/-
  Contracts of FrameDistance, and the walk of its law.
-/
import Derived.Test.YtfbanjmooknafaaE5
namespace Go.Proofs.Ytfbanjmooknafaa
open Go.RowKit
set_option linter.unusedSimpArgs false
set_option linter.unusedVariables false
set_option maxRecDepth 100000

def fdOk (a b c x y z : Int) : Bool := frOk a b c && frOk x y z
def fdI (a b c x y z : Int) : Int := if fdOk a b c x y z = true then (P.onesL (P.xorL (fmL a.toNat b.toNat c.toNat) (fmL x.toNat y.toNat z.toNat)) : Int) else 0
theorem fd_no {a b c x y z : Int} (h : fdOk a b c x y z = false) : fdI a b c x y z = 0 := by unfold fdI; rw [h]; rfl
theorem fd_yes {a b c x y z : Nat} (h : fdOk a b c x y z = true) : fdI a b c x y z = P.onesL (P.xorL (fmL a b c) (fmL x y z)) := by unfold fdI; rw [h]; rfl
/-- two boxes, made one behind the other -/
theorem two_boxes (w : World) (a b c x y z : Int) (T : TypeId) :
    Box ((w.alloc (.cells #[.int .i64 a, .int .i64 b, .int .i64 c] T)).alloc (.cells #[.int .i64 x, .int .i64 y, .int .i64 z] T)) w.heap.size a b c ∧
    Box ((w.alloc (.cells #[.int .i64 a, .int .i64 b, .int .i64 c] T)).alloc (.cells #[.int .i64 x, .int .i64 y, .int .i64 z] T)) (w.heap.size + 1) x y z ∧
    Below w.heap.size w ((w.alloc (.cells #[.int .i64 a, .int .i64 b, .int .i64 c] T)).alloc (.cells #[.int .i64 x, .int .i64 y, .int .i64 z] T)) := by
  refine ⟨(Box.new w a b c T).below ((Below.refl _ _).alloc (Nat.le_refl _) _), ?_, ((Below.refl _ _).alloc (Nat.le_refl _) _).alloc (by simp) _⟩
  have h := Box.new (w.alloc (.cells #[.int .i64 a, .int .i64 b, .int .i64 c] T)) x y z T
  rw [show (w.alloc (.cells #[.int .i64 a, .int .i64 b, .int .i64 c] T)).heap.size = w.heap.size + 1 by simp] at h
  exact h
theorem Box.six {w w' : World} {g h : Nat} {a b c x y z : Int} (h1 : w'.cell? ⟨g, 0, none⟩ = some (.int .i64 a) ∧ w'.cell? ⟨g, 1, none⟩ = some (.int .i64 b) ∧ w'.cell? ⟨g, 2, none⟩ = some (.int .i64 c)) (h2 : w'.cell? ⟨h, 0, none⟩ = some (.int .i64 x) ∧ w'.cell? ⟨h, 1, none⟩ = some (.int .i64 y) ∧ w'.cell? ⟨h, 2, none⟩ = some (.int .i64 z)) :
    w'.cell? ⟨g, 0, none⟩ = some (.int .i64 a) ∧ w'.cell? ⟨g, 1, none⟩ = some (.int .i64 b) ∧ w'.cell? ⟨g, 2, none⟩ = some (.int .i64 c) ∧ w'.cell? ⟨h, 0, none⟩ = some (.int .i64 x) ∧ w'.cell? ⟨h, 1, none⟩ = some (.int .i64 y) ∧ w'.cell? ⟨h, 2, none⟩ = some (.int .i64 z) := ⟨h1.1, h1.2.1, h1.2.2, h2⟩
theorem six_keep {w w' : World} (hb : Below w.heap.size w w') {g h : Nat} {a b c x y z : Int}
    (h1 : w.cell? ⟨g, 0, none⟩ = some (.int .i64 a) ∧ w.cell? ⟨g, 1, none⟩ = some (.int .i64 b) ∧ w.cell? ⟨g, 2, none⟩ = some (.int .i64 c) ∧ w.cell? ⟨h, 0, none⟩ = some (.int .i64 x) ∧ w.cell? ⟨h, 1, none⟩ = some (.int .i64 y) ∧ w.cell? ⟨h, 2, none⟩ = some (.int .i64 z)) :
    w'.cell? ⟨g, 0, none⟩ = some (.int .i64 a) ∧ w'.cell? ⟨g, 1, none⟩ = some (.int .i64 b) ∧ w'.cell? ⟨g, 2, none⟩ = some (.int .i64 c) ∧ w'.cell? ⟨h, 0, none⟩ = some (.int .i64 x) ∧ w'.cell? ⟨h, 1, none⟩ = some (.int .i64 y) ∧ w'.cell? ⟨h, 2, none⟩ = some (.int .i64 z) := by
  obtain ⟨p0, p1, p2, q⟩ := h1
  obtain ⟨r0, r1, r2⟩ := box_keep hb ⟨p0, p1, p2⟩
  exact ⟨r0, r1, r2, box_keep hb q⟩
set_option maxHeartbeats 1000000 in
theorem c_implFrameDistance (a b c x y z : Int) (w : World) : Calls Try.prog 77 #[fr a b c, fr x y z] w fun e w' => e = .returned (.tuple #[.int .i64 (fdI a b c x y z), .bool (fdOk a b c x y z)]) ∧ Below w.heap.size w w' := by
  obtain ⟨hx1, hx2, hB0⟩ := two_boxes w a b c x y z 57
  obtain ⟨W0, hW0⟩ : ∃ W0, (w.alloc (.cells #[.int .i64 a, .int .i64 b, .int .i64 c] 57)).alloc (.cells #[.int .i64 x, .int .i64 y, .int .i64 z] 57) = W0 := ⟨_, rfl⟩
  rw [hW0] at hx1 hx2 hB0
  have HX1 := Lib.hid hx1
  have HX2 := Lib.hid hx2
  obtain ⟨⟨k0, k1, k2⟩, _, _, _⟩ := hx1
  obtain ⟨⟨j0, j1, j2⟩, _, _, _⟩ := hx2
  cases h : frOk a b c with
  | false =>
    have HF := Lib.hid (show fdOk a b c x y z = false by unfold fdOk; rw [h]; rfl)
    have HA := Lib.hid h
    clear h
    go_enter Try.func77, Try.ntmps77
    go_wp2_with fail
    clear hW0
    refine (c_implIsValidFrame a b c _).mono ?_
    rintro e w1 ⟨rfl, hb1⟩
    rw [HA.out]
    have hB1 := hB0.trans (hb1.mono hB0.size)
    clear hb1 k0 k1 k2 j0 j1 j2
    go_wp2
    go_ret2
    exact ⟨ret_ib (by rw [fd_no HF.out]) HF.out.symm, hB1⟩
  | true =>
    have HA := Lib.hid h
    cases h2 : frOk x y z with
    | false =>
      have HF := Lib.hid (show fdOk a b c x y z = false by unfold fdOk; rw [h2, Bool.and_false])
      have HB := Lib.hid h2
      clear h h2
      go_enter Try.func77, Try.ntmps77
      go_wp2_with fail
      clear hW0
      refine (c_implIsValidFrame a b c _).mono ?_
      rintro e w1 ⟨rfl, hb1⟩
      rw [HA.out]
      have hB1 := hB0.trans (hb1.mono hB0.size)
      obtain ⟨⟨p0, p1, p2⟩, _, _, _⟩ := HX2.out.below hb1
      clear hb1 k0 k1 k2 j0 j1 j2
      go_wp2_with fail
      refine (c_implIsValidFrame x y z _).mono ?_
      rintro e w2 ⟨rfl, hb2⟩
      rw [HB.out]
      have hB2 := hB1.trans (hb2.mono hB1.size)
      clear hb2 p0 p1 p2
      go_wp2
      go_ret2
      exact ⟨ret_ib (by rw [fd_no HF.out]) HF.out.symm, hB2⟩
    | true =>
      have HB := Lib.hid h2
      have HT := Lib.hid (show fdOk a b c x y z = true by unfold fdOk; rw [h, h2]; rfl)
      obtain ⟨a, b, c, rfl, rfl, rfl, ha, hb, hc⟩ := fr_nat h
      obtain ⟨x, y, z, rfl, rfl, rfl, hx, hy, hz⟩ := fr_nat h2
      have HXX := Lib.hid (fun W => c_xorBits (bs (fmL a b c)) (bs (fmL x y z)) W (by rw [bs_size, fmL_len]; omega) (by rw [bs_size, bs_size, fmL_len, fmL_len]))
      have hxl : (P.xorL (fmL a b c) (fmL x y z)).length = 56 := by rw [P.xorL_len (by rw [fmL_len, fmL_len]), fmL_len]
      have HXO := Lib.hid (fun W => c_ones (bs (P.xorL (fmL a b c) (fmL x y z))) W (by rw [bs_size, hxl]; omega))
      clear h h2 hxl
      go_enter Try.func77, Try.ntmps77
      go_wp2_with fail
      clear hW0
      refine (c_implIsValidFrame a b c _).mono ?_
      rintro e w1 ⟨rfl, hb1⟩
      rw [HA.out]
      have hB1 := hB0.trans (hb1.mono hB0.size)
      have HY1 := Lib.hid (HX1.out.below hb1)
      have HY2 := Lib.hid (HX2.out.below hb1)
      obtain ⟨⟨p0, p1, p2⟩, _, _, _⟩ := HY2.out
      clear hb1 k0 k1 k2 j0 j1 j2
      go_wp2_with fail
      refine (c_implIsValidFrame x y z _).mono ?_
      rintro e w2 ⟨rfl, hb2⟩
      rw [HB.out]
      have hB2 := hB1.trans (hb2.mono hB1.size)
      have HZ1 := Lib.hid (HY1.out.below hb2)
      have HZ2 := Lib.hid (HY2.out.below hb2)
      clear hb2 p0 p1 p2
      obtain ⟨⟨m0, m1, m2⟩, _, _, _⟩ := HZ1.out
      obtain ⟨⟨n0, n1, n2⟩, _, _, _⟩ := HZ2.out
      go_wp2_with fail
      go_region_held3 (fun w' => w'.cell? ⟨w.heap.size, 0, none⟩ = some (.int .i64 a) ∧ w'.cell? ⟨w.heap.size, 1, none⟩ = some (.int .i64 b) ∧ w'.cell? ⟨w.heap.size, 2, none⟩ = some (.int .i64 c) ∧ w'.cell? ⟨w.heap.size + 1, 0, none⟩ = some (.int .i64 x) ∧ w'.cell? ⟨w.heap.size + 1, 1, none⟩ = some (.int .i64 y) ∧ w'.cell? ⟨w.heap.size + 1, 2, none⟩ = some (.int .i64 z))
        (first | go_keep | (exact six_keep hbA ⟨m0, m1, m2, n0, n1, n2⟩) | (exact six_keep hbB (by assumption)) | (exact six_keep hbC (by assumption)))
        (first
          | (go_at_call_of 177 (Value.int IntKind.i64 (a : Int)); (refine (c_frameBits a b c _ (by omega) (by omega) (by omega)).mono ?_; rintro e wA ⟨rfl, hbA⟩))
          | (go_at_call_of 177 (Value.int IntKind.i64 (x : Int)); (refine (c_frameBits x y z _ (by omega) (by omega) (by omega)).mono ?_; rintro e wB ⟨rfl, hbB⟩))
          | (go_at_call 142; (refine (HXX.out _).mono ?_; rintro e wC ⟨rfl, hbC⟩))
          | (go_at_call 157; (refine (HXO.out _).mono ?_; rintro e w' ⟨rfl, rfl⟩)))
      have hBA := hB2.trans (Below.mono (show Below w2.heap.size w2 wA from ⟨hbA.os, hbA.tape, hbA.output, hbA.size, hbA.block⟩) hB2.size)
      have hBB := hBA.trans (hbB.mono hBA.size)
      have hBC := hBB.trans (hbC.mono hBB.size)
      clear hbA hbB hbC
      go_wp2
      go_ret2
      exact ⟨ret_ib (by rw [fd_yes HT.out]; rfl) HT.out.symm, hBC⟩
set_option maxHeartbeats 1000000 in
theorem c_specFrameDistance (a b c x y z : Int) (w : World) : Calls Try.prog 78 #[fr a b c, fr x y z] w fun e w' => e = .returned (.tuple #[.int .i64 (fdI a b c x y z), .bool (fdOk a b c x y z)]) ∧ Below w.heap.size w w' := by
  obtain ⟨hx1, hx2, hB0⟩ := two_boxes w a b c x y z 57
  obtain ⟨W0, hW0⟩ : ∃ W0, (w.alloc (.cells #[.int .i64 a, .int .i64 b, .int .i64 c] 57)).alloc (.cells #[.int .i64 x, .int .i64 y, .int .i64 z] 57) = W0 := ⟨_, rfl⟩
  rw [hW0] at hx1 hx2 hB0
  have HX1 := Lib.hid hx1
  have HX2 := Lib.hid hx2
  obtain ⟨⟨k0, k1, k2⟩, _, _, _⟩ := hx1
  obtain ⟨⟨j0, j1, j2⟩, _, _, _⟩ := hx2
  cases h : frOk a b c with
  | false =>
    have HF := Lib.hid (show fdOk a b c x y z = false by unfold fdOk; rw [h]; rfl)
    have HA := Lib.hid h
    clear h
    go_enter Try.func78, Try.ntmps78
    go_wp2_with fail
    clear hW0
    refine (c_l5Good a b c _).mono ?_
    rintro e w1 ⟨rfl, hb1⟩
    rw [HA.out]
    have hB1 := hB0.trans (hb1.mono hB0.size)
    clear hb1 k0 k1 k2 j0 j1 j2
    go_wp2
    go_ret2
    exact ⟨ret_ib (by rw [fd_no HF.out]) HF.out.symm, hB1⟩
  | true =>
    have HA := Lib.hid h
    cases h2 : frOk x y z with
    | false =>
      have HF := Lib.hid (show fdOk a b c x y z = false by unfold fdOk; rw [h2, Bool.and_false])
      have HB := Lib.hid h2
      clear h h2
      go_enter Try.func78, Try.ntmps78
      go_wp2_with fail
      clear hW0
      refine (c_l5Good a b c _).mono ?_
      rintro e w1 ⟨rfl, hb1⟩
      rw [HA.out]
      have hB1 := hB0.trans (hb1.mono hB0.size)
      obtain ⟨⟨p0, p1, p2⟩, _, _, _⟩ := HX2.out.below hb1
      clear hb1 k0 k1 k2 j0 j1 j2
      go_wp2_with fail
      refine (c_l5Good x y z _).mono ?_
      rintro e w2 ⟨rfl, hb2⟩
      rw [HB.out]
      have hB2 := hB1.trans (hb2.mono hB1.size)
      clear hb2 p0 p1 p2
      go_wp2
      go_ret2
      exact ⟨ret_ib (by rw [fd_no HF.out]) HF.out.symm, hB2⟩
    | true =>
      have HB := Lib.hid h2
      have HT := Lib.hid (show fdOk a b c x y z = true by unfold fdOk; rw [h, h2]; rfl)
      obtain ⟨a, b, c, rfl, rfl, rfl, ha, hb, hc⟩ := fr_nat h
      obtain ⟨x, y, z, rfl, rfl, rfl, hx, hy, hz⟩ := fr_nat h2
      have HXX := Lib.hid (fun W => c_l2Xor (bs (fmL a b c)) (bs (fmL x y z)) W (by rw [bs_size, fmL_len]; omega) (by rw [bs_size, bs_size, fmL_len, fmL_len]))
      have hxl : (P.xorL (fmL a b c) (fmL x y z)).length = 56 := by rw [P.xorL_len (by rw [fmL_len, fmL_len]), fmL_len]
      have HXO := Lib.hid (fun W => c_l2Ones (bs (P.xorL (fmL a b c) (fmL x y z))) W (by rw [bs_size, hxl]; omega))
      clear h h2 hxl
      go_enter Try.func78, Try.ntmps78
      go_wp2_with fail
      clear hW0
      refine (c_l5Good a b c _).mono ?_
      rintro e w1 ⟨rfl, hb1⟩
      rw [HA.out]
      have hB1 := hB0.trans (hb1.mono hB0.size)
      have HY1 := Lib.hid (HX1.out.below hb1)
      have HY2 := Lib.hid (HX2.out.below hb1)
      obtain ⟨⟨p0, p1, p2⟩, _, _, _⟩ := HY2.out
      clear hb1 k0 k1 k2 j0 j1 j2
      go_wp2_with fail
      refine (c_l5Good x y z _).mono ?_
      rintro e w2 ⟨rfl, hb2⟩
      rw [HB.out]
      have hB2 := hB1.trans (hb2.mono hB1.size)
      have HZ1 := Lib.hid (HY1.out.below hb2)
      have HZ2 := Lib.hid (HY2.out.below hb2)
      clear hb2 p0 p1 p2
      obtain ⟨⟨m0, m1, m2⟩, _, _, _⟩ := HZ1.out
      obtain ⟨⟨n0, n1, n2⟩, _, _, _⟩ := HZ2.out
      go_wp2_with fail
      go_region_held3 (fun w' => w'.cell? ⟨w.heap.size, 0, none⟩ = some (.int .i64 a) ∧ w'.cell? ⟨w.heap.size, 1, none⟩ = some (.int .i64 b) ∧ w'.cell? ⟨w.heap.size, 2, none⟩ = some (.int .i64 c) ∧ w'.cell? ⟨w.heap.size + 1, 0, none⟩ = some (.int .i64 x) ∧ w'.cell? ⟨w.heap.size + 1, 1, none⟩ = some (.int .i64 y) ∧ w'.cell? ⟨w.heap.size + 1, 2, none⟩ = some (.int .i64 z))
        (first | go_keep | (exact six_keep hbA ⟨m0, m1, m2, n0, n1, n2⟩) | (exact six_keep hbB (by assumption)) | (exact six_keep hbC (by assumption)))
        (first
          | (go_at_call_of 180 (Value.int IntKind.i64 (a : Int)); (refine (c_l5Bits a b c _ (by omega) (by omega) (by omega)).mono ?_; rintro e wA ⟨rfl, hbA⟩))
          | (go_at_call_of 180 (Value.int IntKind.i64 (x : Int)); (refine (c_l5Bits x y z _ (by omega) (by omega) (by omega)).mono ?_; rintro e wB ⟨rfl, hbB⟩))
          | (go_at_call 158; (refine (HXX.out _).mono ?_; rintro e wC ⟨rfl, hbC⟩))
          | (go_at_call 179; (refine (HXO.out _).mono ?_; rintro e w' ⟨rfl, rfl⟩)))
      have hBA := hB2.trans (Below.mono (show Below w2.heap.size w2 wA from ⟨hbA.os, hbA.tape, hbA.output, hbA.size, hbA.block⟩) hB2.size)
      have hBB := hBA.trans (hbB.mono hBA.size)
      have hBC := hBB.trans (hbC.mono hBB.size)
      clear hbA hbB hbC
      go_wp2
      go_ret2
      exact ⟨ret_ib (by rw [fd_yes HT.out]; rfl) HT.out.symm, hBC⟩

end Go.Proofs.Ytfbanjmooknafaa
