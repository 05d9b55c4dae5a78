/-
  The walk of the law on flips.
-/
import Derived.Test.YtfbanjmooknafaaDF
import Derived.Test.YtfbanjmooknafaaB3
import Derived.Test.YtfbanjmooknafaaPlain3
namespace Go.Proofs.Ytfbanjmooknafaa
open Go.RowKit Go.ChangeShapes Go.WideShapes Go.ChangeAt Go.Joins Go.Deep
set_option linter.unusedSimpArgs false
set_option linter.unusedVariables false
set_option maxRecDepth 100000

/-- what a flip leaves, as the law asks it -/
theorem flips1 {x : List UInt8} {i : Int} (h : fbOk x i = true) : ∃ k : Nat, i = (k : Int) ∧ k < x.length ∧ x.length ≤ 64 ∧ fbL (fbL x i) i = x ∧ fbOk (fbL x i) i = true ∧ xoOk x (fbL x i) = true ∧ coI (xoL x (fbL x i)) = 1 ∧ P.isBits (xoL x (fbL x i)) = true ∧ (xoL x (fbL x i))[k]? = some 49 ∧ (xoL x (fbL x i)).length = x.length := by
  have h0 := h
  unfold fbOk at h0
  rw [Bool.and_eq_true, P.isBits_iff, P.inB_iff] at h0
  obtain ⟨⟨h64, hb⟩, i0, i1⟩ := h0
  obtain ⟨k, rfl⟩ : ∃ k : Nat, i = (k : Int) := ⟨i.toNat, by omega⟩
  have hk : k < x.length := by omega
  have e1 : fbL x k = P.flipL x k := by unfold fbL; rw [h]; rfl
  rw [e1]
  have hfl := P.flipL_len x k
  have hfb := P.flipL_bits hb k
  have o2 : fbOk (P.flipL x k) k = true := by
    unfold fbOk
    rw [Bool.and_eq_true, P.isBits_iff, P.inB_iff]
    exact ⟨⟨by omega, hfb⟩, by omega, by omega⟩
  have e2 : fbL (P.flipL x k) k = x := by unfold fbL; rw [o2, if_pos rfl]; exact P.flipL_flip hb hk
  have o3 : xoOk x (P.flipL x k) = true := by
    unfold xoOk
    rw [Bool.and_eq_true, Bool.and_eq_true, P.isBits_iff, P.isBits_iff, decide_eq_true_eq]
    exact ⟨⟨⟨h64, hb⟩, by omega, hfb⟩, by omega⟩
  have e3 : xoL x (P.flipL x k) = P.single x.length k := by unfold xoL; rw [o3, if_pos rfl]; exact P.xor_flip hb hk
  have hsb : P.isBits (P.single x.length k) = true := P.isBits_iff.2 ⟨by rw [P.single_len]; omega, P.single_bits _ _⟩
  rw [e2, o2, o3, e3]
  refine ⟨k, rfl, hk, h64, rfl, rfl, rfl, ?_, hsb, P.single_get hk, P.single_len _ _⟩
  unfold coI; rw [hsb, if_pos rfl, P.ones_single hk]; rfl
theorem flips2 {a b : List UInt8} (h : xoOk a b = true) : xoL (xoL a b) b = a ∧ xoOk (xoL a b) b = true ∧ P.isBits a = true ∧ P.isBits b = true ∧ P.isBits (xoL a b) = true ∧ a.length ≤ 64 ∧ b.length ≤ 64 ∧ (xoL a b).length ≤ 64 ∧
    ∃ p q n c : Nat, coI a = p ∧ coI b = q ∧ coI (xoL a b) = n ∧ n + 2 * c = p + q ∧ p ≤ 64 ∧ q ≤ 64 := by
  have h0 := h
  unfold xoOk at h0
  rw [Bool.and_eq_true, Bool.and_eq_true, decide_eq_true_eq] at h0
  obtain ⟨⟨ha, hb⟩, hl⟩ := h0
  obtain ⟨a64, ab⟩ := P.isBits_iff.1 ha
  obtain ⟨b64, bb⟩ := P.isBits_iff.1 hb
  have e1 : xoL a b = P.xorL a b := by unfold xoL; rw [h]; rfl
  have hxl := P.xorL_len hl
  have hx : P.isBits (P.xorL a b) = true := P.isBits_iff.2 ⟨by omega, P.xorL_bits a b⟩
  have o2 : xoOk (P.xorL a b) b = true := by unfold xoOk; rw [hx, hb, decide_eq_true (by omega)]; rfl
  have e2 : xoL (P.xorL a b) b = a := by unfold xoL; rw [o2, if_pos rfl]; exact P.xor_back ab bb hl
  obtain ⟨c, hc⟩ := P.ones_xor ab bb hl
  rw [e1, e2, o2]
  refine ⟨rfl, rfl, ha, hb, hx, a64, b64, by omega, P.onesL a, P.onesL b, P.onesL (P.xorL a b), c, ?_, ?_, ?_, hc, ?_, ?_⟩
  · unfold coI; rw [ha]; rfl
  · unfold coI; rw [hb]; rfl
  · unfold coI; rw [hx]; rfl
  · have := P.onesL_le a; omega
  · have := P.onesL_le b; omega
theorem c_FB (x : List UInt8) (i : Int) (T : List UInt8) (o : Bool) (hT : fbL x i = T) (ho : fbOk x i = o) (hx : x.length ≤ 1000) (w : World) : Calls Try.prog 21 #[.string (bs x), .int .i64 i] w fun e w' => e = .returned (.tuple #[.string (bs T), .bool o]) ∧ Below w.heap.size w w' := by
  have h := c_implFlipBit (bs x) i w (by rw [bs_size]; unfold maxLen; omega)
  rw [show B (bs x) = x from rfl, hT, ho] at h; exact h
theorem c_FBs (x : List UInt8) (i : Int) (T : List UInt8) (o : Bool) (hT : fbL x i = T) (ho : fbOk x i = o) (hx : x.length ≤ 1000) (w : World) : Calls Try.prog 40 #[.string (bs x), .int .i64 i] w fun e w' => e = .returned (.tuple #[.string (bs T), .bool o]) ∧ Below w.heap.size w w' := by
  have h := c_specFlipBit (bs x) i w (by rw [bs_size]; unfold maxLen; omega)
  rw [show B (bs x) = x from rfl, hT, ho] at h; exact h
theorem c_XB (x y : List UInt8) (T : List UInt8) (o : Bool) (hT : xoL x y = T) (ho : xoOk x y = o) (hx : x.length ≤ 1000) (hy : y.length ≤ 1000) (w : World) : Calls Try.prog 23 #[.string (bs x), .string (bs y)] w fun e w' => e = .returned (.tuple #[.string (bs T), .bool o]) ∧ Below w.heap.size w w' := by
  have h := c_implXorBits (bs x) (bs y) w (by rw [bs_size]; unfold maxLen; omega) (by rw [bs_size]; unfold maxLen; omega)
  rw [show B (bs x) = x from rfl, show B (bs y) = y from rfl, hT, ho] at h; exact h
theorem c_XBs (x y : List UInt8) (T : List UInt8) (o : Bool) (hT : xoL x y = T) (ho : xoOk x y = o) (hx : x.length ≤ 1000) (hy : y.length ≤ 1000) (w : World) : Calls Try.prog 43 #[.string (bs x), .string (bs y)] w fun e w' => e = .returned (.tuple #[.string (bs T), .bool o]) ∧ Below w.heap.size w w' := by
  have h := c_specXorBits (bs x) (bs y) w (by rw [bs_size]; unfold maxLen; omega) (by rw [bs_size]; unfold maxLen; omega)
  rw [show B (bs x) = x from rfl, show B (bs y) = y from rfl, hT, ho] at h; exact h
theorem c_CO (x : List UInt8) (n : Int) (o : Bool) (hT : coI x = n) (ho : P.isBits x = o) (hx : x.length ≤ 1000) (w : World) : Calls Try.prog 41 #[.string (bs x)] w fun e w' => e = .returned (.tuple #[.int .i64 n, .bool o]) ∧ w = w' := by
  have h := c_implCountOnes (bs x) w (by rw [bs_size]; unfold maxLen; omega)
  rw [show B (bs x) = x from rfl, hT, ho] at h; exact h
theorem fb_len {x : List UInt8} {i : Int} (h : x.length ≤ 300) : (fbL x i).length ≤ 300 := by
  unfold fbL; split
  · rw [P.flipL_len]; exact h
  · simp
theorem xo_len {a b : List UInt8} (h : a.length ≤ 300) : (xoL a b).length ≤ 300 := by
  unfold xoL; split
  · unfold P.xorL; rw [List.length_zipWith]; omega
  · simp
set_option maxHeartbeats 2000000 in
theorem l_FnFlips (A : Option Addr) (n c : Nat) (l : List UInt8) (w : World) (hl : l.length = n) (hm : n ≤ maxLen) (h : Holds w A (ub l)) : Calls Try.prog 5 #[.slice A n c] w fun e w' => e = .returned (.bool true) ∧ Below w.heap.size w w' := by
  clear hm
  by_cases hn : n ≤ 65536
  · have HL := Lib.hid hl
    have HH := Lib.hid h
    clear hl h
    go_enter Try.func5, Try.ntmps5
    go_wp2_with (go_at_call 15; refine (c_vBig A n c _).mono ?_; rintro e w' ⟨rfl, rfl⟩)
    refine (c_DrawFlipBit A n c l _ HL.out hn HH.out).mono ?_
    rintro e w1 ⟨x, i, hx, i0, i1, rfl, hb1⟩
    obtain ⟨T, hT⟩ : ∃ T, fbL x i = T := ⟨_, rfl⟩
    obtain ⟨o, ho⟩ : ∃ o, fbOk x i = o := ⟨_, rfl⟩
    have htl := fb_len (i := i) hx
    rw [hT] at htl
    have HT := Lib.hid hT
    have HO := Lib.hid ho
    clear hT ho
    go_wp2_with fail
    refine (c_FB x i T o HT.out HO.out (by omega) _).mono ?_
    rintro e w2 ⟨rfl, hb2⟩
    go_wp2_with fail
    refine (c_FBs x i T o HT.out HO.out (by omega) _).mono ?_
    rintro e w3 ⟨rfl, hb3⟩
    have hB3 := hb1.trans ((hb2.trans (hb3.mono hb2.size)).mono hb1.size)
    clear hb1 hb2 hb3
    cases o with
    | false =>
      go_wp2_with fail
      refine (c_DrawXorBits A n c l _ HL.out hn (holds_belowU HH.out hB3)).mono ?_
      rintro e v1 ⟨a, b, ha, hb, rfl, hv1⟩
      obtain ⟨X, hX⟩ : ∃ X, xoL a b = X := ⟨_, rfl⟩
      obtain ⟨q, hq⟩ : ∃ q, xoOk a b = q := ⟨_, rfl⟩
      have hXl := xo_len (b := b) ha
      rw [hX] at hXl
      have HXX := Lib.hid hX
      have HQQ := Lib.hid hq
      clear hX hq
      go_wp2_with fail
      refine (c_XB a b X q HXX.out HQQ.out (by omega) (by omega) _).mono ?_
      rintro e v2 ⟨rfl, hv2⟩
      go_wp2_with fail
      refine (c_XBs a b X q HXX.out HQQ.out (by omega) (by omega) _).mono ?_
      rintro e v3 ⟨rfl, hv3⟩
      have hV3 := (hB3).trans ((hv1.trans ((hv2.trans (hv3.mono hv2.size)).mono hv1.size)).mono (hB3).size)
      clear hv1 hv2 hv3
      cases q with
      | false =>
        go_wp2
        go_ret
        exact ⟨rfl, hV3⟩
      | true =>
        obtain ⟨s1, s2, s3, s4, s5, s6, s7, s8, p', q', n', c', t1, t2, t3, t4, t5, t6⟩ := flips2 HQQ.out
        rw [HXX.out] at s1 s2 s5 s8 t3
        have S1 := Lib.hid s1
        have S2 := Lib.hid s2
        have S3 := Lib.hid s3
        have S4 := Lib.hid s4
        have S5 := Lib.hid s5
        have T1 := Lib.hid t1
        have T2 := Lib.hid t2
        have T3 := Lib.hid t3
        have u1 : (n' : Int) ≤ (p' : Int) + q' := by omega
        have u2 : (((p' : Int) + q' - n') % 2 == 0) = true := beq_iff_eq.2 (by omega)
        have u3 : n' ≤ 128 := by omega
        clear s1 s2 s3 s4 s5 t1 t2 t3 t4
        go_wp2_with fail
        refine (c_XB X b a true S1.out S2.out (by omega) (by omega) _).mono ?_
        rintro e v4 ⟨rfl, hv4⟩
        go_wp2_with fail
        refine (c_CO a p' true T1.out S3.out (by omega) _).mono ?_
        rintro e w' ⟨rfl, rfl⟩
        go_wp2_with fail
        refine (c_CO b q' true T2.out S4.out (by omega) _).mono ?_
        rintro e w' ⟨rfl, rfl⟩
        go_wp2_with fail
        refine (c_CO X n' true T3.out S5.out (by omega) _).mono ?_
        rintro e w' ⟨rfl, rfl⟩
        have hV4 := hV3.trans (hv4.mono hV3.size)
        clear hv4
        go_wp2
        go_ret
        exact ⟨ret_bool (by first | (simp; done) | (simp; omega)), hV4⟩
    | true =>
      obtain ⟨k, rfl, hk, h64, r1, r2, r3, r4, r5, r6, r7⟩ := flips1 HO.out
      rw [HT.out] at r1 r2 r3 r4 r5 r6 r7
      obtain ⟨Z, hZ⟩ : ∃ Z, xoL x T = Z := ⟨_, rfl⟩
      rw [hZ] at r4 r5 r6 r7
      have R1 := Lib.hid r1
      have R2 := Lib.hid r2
      have R3 := Lib.hid r3
      have R4 := Lib.hid r4
      have R5 := Lib.hid r5
      have RZ := Lib.hid hZ
      have hZs := bs_size Z
      have hkz : k < (bs Z).size := by omega
      have hzk : (bs Z)[k] = 49 := by
        have e := B_get? (bs Z) k hkz
        rw [B_bs, r6] at e
        injection e with e; exact e.symm
      have hz49 : (((bs Z)[k]).toNat : Int) = 49 := by rw [hzk]; rfl
      have hZ1 : Z.length ≤ 1000 := by omega
      clear r1 r2 r3 r4 r5 r6 r7 hZ hZs hzk
      go_wp2_with fail
      refine (c_FB T k x true R1.out R2.out (by omega) _).mono ?_
      rintro e w4 ⟨rfl, hb4⟩
      go_wp2_with fail
      refine (c_XB x T Z true RZ.out R3.out (by omega) (by omega) _).mono ?_
      rintro e w5 ⟨rfl, hb5⟩
      go_wp2_with fail
      refine (c_CO Z 1 true R4.out R5.out hZ1 _).mono ?_
      rintro e w' ⟨rfl, rfl⟩
      have hB5 := hB3.trans ((hb4.trans (hb5.mono hb4.size)).mono hB3.size)
      clear hb4 hb5
      go_wp2_with fail
      refine (c_DrawXorBits A n c l _ HL.out hn (holds_belowU HH.out hB5)).mono ?_
      rintro e v1 ⟨a, b, ha, hb, rfl, hv1⟩
      obtain ⟨X, hX⟩ : ∃ X, xoL a b = X := ⟨_, rfl⟩
      obtain ⟨q, hq⟩ : ∃ q, xoOk a b = q := ⟨_, rfl⟩
      have hXl := xo_len (b := b) ha
      rw [hX] at hXl
      have HXX := Lib.hid hX
      have HQQ := Lib.hid hq
      clear hX hq
      go_wp2_with fail
      refine (c_XB a b X q HXX.out HQQ.out (by omega) (by omega) _).mono ?_
      rintro e v2 ⟨rfl, hv2⟩
      go_wp2_with fail
      refine (c_XBs a b X q HXX.out HQQ.out (by omega) (by omega) _).mono ?_
      rintro e v3 ⟨rfl, hv3⟩
      have hV3 := (hB5).trans ((hv1.trans ((hv2.trans (hv3.mono hv2.size)).mono hv1.size)).mono (hB5).size)
      clear hv1 hv2 hv3
      cases q with
      | false =>
        go_wp2
        go_ret
        exact ⟨rfl, hV3⟩
      | true =>
        obtain ⟨s1, s2, s3, s4, s5, s6, s7, s8, p', q', n', c', t1, t2, t3, t4, t5, t6⟩ := flips2 HQQ.out
        rw [HXX.out] at s1 s2 s5 s8 t3
        have S1 := Lib.hid s1
        have S2 := Lib.hid s2
        have S3 := Lib.hid s3
        have S4 := Lib.hid s4
        have S5 := Lib.hid s5
        have T1 := Lib.hid t1
        have T2 := Lib.hid t2
        have T3 := Lib.hid t3
        have u1 : (n' : Int) ≤ (p' : Int) + q' := by omega
        have u2 : (((p' : Int) + q' - n') % 2 == 0) = true := beq_iff_eq.2 (by omega)
        have u3 : n' ≤ 128 := by omega
        clear s1 s2 s3 s4 s5 t1 t2 t3 t4
        go_wp2_with fail
        refine (c_XB X b a true S1.out S2.out (by omega) (by omega) _).mono ?_
        rintro e v4 ⟨rfl, hv4⟩
        go_wp2_with fail
        refine (c_CO a p' true T1.out S3.out (by omega) _).mono ?_
        rintro e w' ⟨rfl, rfl⟩
        go_wp2_with fail
        refine (c_CO b q' true T2.out S4.out (by omega) _).mono ?_
        rintro e w' ⟨rfl, rfl⟩
        go_wp2_with fail
        refine (c_CO X n' true T3.out S5.out (by omega) _).mono ?_
        rintro e w' ⟨rfl, rfl⟩
        have hV4 := hV3.trans (hv4.mono hV3.size)
        clear hv4
        go_wp2
        go_ret
        exact ⟨ret_bool (by first | (simp; done) | (simp; omega)), hV4⟩
  · go_enter Try.func5, Try.ntmps5
    go_wp2_with (go_at_call 15; refine (c_vBig A n c _).mono ?_; rintro e w' ⟨rfl, rfl⟩)
    go_ret
    exact ⟨rfl, Below.refl _ _⟩
end Go.Proofs.Ytfbanjmooknafaa
