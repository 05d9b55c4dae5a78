/-
  The walk of the law on frames.
-/
import Derived.Test.YtfbanjmooknafaaLT
namespace Go.Proofs.Ytfbanjmooknafaa
open Go.RowKit Go.ChangeShapes Go.WideShapes Go.ChangeAt Go.Joins Go.Deep
set_option linter.unusedSimpArgs false
set_option linter.unusedVariables false
set_option maxRecDepth 100000

theorem k_EF (a b c : Int) (s : List UInt8) (o : Bool) (hs : efS a b c = s) (ho : frOk a b c = o) (w : World) : Calls Try.prog 113 #[.agg #[.int .i64 a, .int .i64 b, .int .i64 c]] w fun e w' => e = .returned (.tuple #[.string (bs s), .bool o]) ∧ Below w.heap.size w w' := by
  have h := c_implEncodeFrame a b c w
  rw [hs, ho] at h; exact h
theorem k_EFs (a b c : Int) (s : List UInt8) (o : Bool) (hs : efS a b c = s) (ho : frOk a b c = o) (w : World) : Calls Try.prog 114 #[.agg #[.int .i64 a, .int .i64 b, .int .i64 c]] w fun e w' => e = .returned (.tuple #[.string (bs s), .bool o]) ∧ Below w.heap.size w w' := by
  have h := c_specEncodeFrame a b c w
  rw [hs, ho] at h; exact h
theorem k_IV (a b c : Int) (o : Bool) (ho : frOk a b c = o) (w : World) : Calls Try.prog 115 #[.agg #[.int .i64 a, .int .i64 b, .int .i64 c]] w fun e w' => e = .returned (.bool o) ∧ Below w.heap.size w w' := by
  have h := c_implIsValidFrame a b c w
  rw [ho] at h; exact h
theorem k_DF (x : List UInt8) (a b c : Int) (o : Bool) (ha : dfA x = a) (hb : dfB x = b) (hc : dfC x = c) (ho : dfOk x = o) (hx : x.length ≤ 1000) (w : World) : Calls Try.prog 116 #[.string (bs x)] w fun e w' => e = .returned (.tuple #[.agg #[.int .i64 a, .int .i64 b, .int .i64 c], .bool o]) ∧ Below w.heap.size w w' := by
  have h := c_implDecodeFrame (bs x) w (ml hx)
  rw [show B (bs x) = x from rfl, ha, hb, hc, ho] at h; exact h
theorem k_RF (x : List UInt8) (a b c i : Int) (o : Bool) (ha : rfA x = a) (hb : rfB x = b) (hc : rfC x = c) (hi : rfI x = i) (ho : rfOk x = o) (hx : x.length ≤ 1000) (w : World) : Calls Try.prog 117 #[.string (bs x)] w fun e w' => e = .returned (.tuple #[.agg #[.int .i64 a, .int .i64 b, .int .i64 c], .int .i64 i, .bool o]) ∧ Below w.heap.size w w' := by
  have h := c_implRepairFrame (bs x) w (ml hx)
  rw [show B (bs x) = x from rfl, ha, hb, hc, hi, ho] at h; exact h
theorem k_RFs (x : List UInt8) (a b c i : Int) (o : Bool) (ha : rfA x = a) (hb : rfB x = b) (hc : rfC x = c) (hi : rfI x = i) (ho : rfOk x = o) (hx : x.length ≤ 1000) (w : World) : Calls Try.prog 121 #[.string (bs x)] w fun e w' => e = .returned (.tuple #[.agg #[.int .i64 a, .int .i64 b, .int .i64 c], .int .i64 i, .bool o]) ∧ Below w.heap.size w w' := by
  have h := c_specRepairFrame (bs x) w (ml hx)
  rw [show B (bs x) = x from rfl, ha, hb, hc, hi, ho] at h; exact h
theorem k_PF (x : List UInt8) (a b c : Int) (o : Bool) (ha : P.pfA x = a) (hb : P.pfB x = b) (hc : P.pfC x = c) (ho : P.pfOk x = o) (hx : x.length ≤ 1000) (w : World) : Calls Try.prog 119 #[.string (bs x)] w fun e w' => e = .returned (.tuple #[.agg #[.int .i64 a, .int .i64 b, .int .i64 c], .bool o]) ∧ Below w.heap.size w w' := by
  have h := c_implParseFrameText (bs x) w (by rw [bs_size]; omega)
  rw [show B (bs x) = x from rfl, ha, hb, hc, ho] at h; exact h
theorem k_PFs (x : List UInt8) (a b c : Int) (o : Bool) (ha : P.pfA x = a) (hb : P.pfB x = b) (hc : P.pfC x = c) (ho : P.pfOk x = o) (hx : x.length ≤ 1000) (w : World) : Calls Try.prog 123 #[.string (bs x)] w fun e w' => e = .returned (.tuple #[.agg #[.int .i64 a, .int .i64 b, .int .i64 c], .bool o]) ∧ Below w.heap.size w w' := by
  have h := c_specParseFrameText (bs x) w (by rw [bs_size]; omega)
  rw [show B (bs x) = x from rfl, ha, hb, hc, ho] at h; exact h
theorem k_FT (a b c : Int) (s : List UInt8) (o : Bool) (hs : P.ftL a b c = s) (ho : frOk a b c = o) (w : World) : Calls Try.prog 118 #[.agg #[.int .i64 a, .int .i64 b, .int .i64 c]] w fun e w' => e = .returned (.tuple #[.string (bs s), .bool o]) ∧ Below w.heap.size w w' := by
  have h := c_implFrameText a b c w
  rw [hs, ho] at h; exact h
theorem k_BH (x y : List UInt8) (o : Bool) (hy : bhL x = y) (ho : P.unhexOk x = o) (hx : x.length ≤ 1000) (w : World) : Calls Try.prog 61 #[.string (bs x)] w fun e w' => e = .returned (.tuple #[.string (bs y), .bool o]) ∧ Below w.heap.size w w' := by
  have h := c_implBitsFromHex (bs x) w (ml hx)
  rw [show B (bs x) = x from rfl, hy, ho] at h; exact h
theorem k_HO (x y : List UInt8) (o : Bool) (hy : hoL x = y) (ho : hoOk x = o) (hx : x.length ≤ 1000) (w : World) : Calls Try.prog 60 #[.string (bs x)] w fun e w' => e = .returned (.tuple #[.string (bs y), .bool o]) ∧ w = w' := by
  have h := c_implHexOf (bs x) w (ml hx)
  rw [show B (bs x) = x from rfl, hy, ho] at h; exact h
set_option maxHeartbeats 4000000 in
theorem l_FnFrames (A : Option Addr) (n c : Nat) (l : List UInt8) (w : World) (hl : l.length = n) (hm : n ≤ maxLen) (h : Holds w A (ub l)) : Calls Try.prog 12 #[.slice A n c] w fun e w' => e = .returned (.bool true) ∧ Below w.heap.size w w' := by
  clear hm
  by_cases hn : n ≤ 65536
  · have HL := Lib.hid hl
    have HH := Lib.hid h
    clear hl h
    go_enter Try.func12, Try.ntmps12
    go_wp2_with (go_at_call 15; refine (c_vBig A n c _).mono ?_; rintro e w' ⟨rfl, rfl⟩)
    refine (c_DrawEncodeFrame A n c l _ HL.out hn HH.out).mono ?_
    rintro e w1 ⟨a, b, d, ⟨⟨a0, a1⟩, ⟨b0, b1⟩, d0, d1⟩, rfl, hb1⟩
    obtain ⟨o, ho⟩ : ∃ o, frOk a b d = o := ⟨_, rfl⟩
    have HO := Lib.hid ho
    obtain ⟨s, hs⟩ : ∃ s, efS a b d = s := ⟨_, rfl⟩
    have HS := Lib.hid hs
    clear ho hs
    have hA := (Below.refl (w1).heap.size w1).alloc (Nat.le_refl _) (.cells #[.int .i64 a, .int .i64 b, .int .i64 d] 57)
    have hX := Box.new w1 a b d 57
    obtain ⟨W1, hW⟩ : ∃ W, (w1).alloc (.cells #[.int .i64 a, .int .i64 b, .int .i64 d] 57) = W := ⟨_, rfl⟩
    rw [hW] at hA hX
    have XF := Lib.hid hX
    have hB1 := (hb1).trans (hA.mono (hb1).size)
    clear hX
    obtain ⟨⟨k0, k1, k2⟩, _, _, _⟩ := XF.out
    clear hA hb1
    go_wp2_with fail
    clear hW k0 k1 k2
    refine (k_EF a b d s o HS.out HO.out _).mono ?_
    rintro e w2 ⟨rfl, hb2⟩
    have XF2 := Lib.hid (XF.out.below hb2)
    have hB2 := hB1.trans (hb2.mono hB1.size)
    obtain ⟨⟨k0, k1, k2⟩, _, _, _⟩ := XF2.out
    clear hb2 hB1
    go_wp2_with fail
    clear k0 k1 k2
    refine (k_EFs a b d s o HS.out HO.out _).mono ?_
    rintro e w3 ⟨rfl, hb3⟩
    have XF3 := Lib.hid (XF2.out.below hb3)
    have hB3 := hB2.trans (hb3.mono hB2.size)
    obtain ⟨⟨k0, k1, k2⟩, _, _, _⟩ := XF3.out
    clear hb3 hB2 XF2
    go_wp2_with fail
    clear k0 k1 k2
    refine (k_IV a b d o HO.out _).mono ?_
    rintro e w4 ⟨rfl, hb4⟩
    have XF4 := Lib.hid (XF3.out.below hb4)
    have hB4 := hB3.trans (hb4.mono hB3.size)
    clear hb4 hB3 XF3
    cases o with
    | false =>
      go_wp2_with fail
      refine (c_DrawRepairFrame A n c l _ HL.out hn (holds_belowU HH.out hB4)).mono ?_
      rintro e v1 ⟨t, ht3, rfl, hv1⟩
      obtain ⟨p1, hp1⟩ : ∃ p, rfA t = p := ⟨_, rfl⟩
      obtain ⟨p2, hp2⟩ : ∃ p, rfB t = p := ⟨_, rfl⟩
      obtain ⟨p3, hp3⟩ : ∃ p, rfC t = p := ⟨_, rfl⟩
      obtain ⟨p4, hp4⟩ : ∃ p, rfI t = p := ⟨_, rfl⟩
      obtain ⟨p5, hp5⟩ : ∃ p, rfOk t = p := ⟨_, rfl⟩
      have HP1 := Lib.hid hp1
      have HP2 := Lib.hid hp2
      have HP3 := Lib.hid hp3
      have HP4 := Lib.hid hp4
      have HP5 := Lib.hid hp5
      have hV1 := (hB4).trans (hv1.mono (hB4).size)
      clear hp1 hp2 hp3 hp4 hp5 hv1
      go_wp2_with fail
      refine (k_RF t p1 p2 p3 p4 p5 HP1.out HP2.out HP3.out HP4.out HP5.out (by omega) _).mono ?_
      rintro e v2 ⟨rfl, hv2⟩
      have hV2 := hV1.trans (hv2.mono hV1.size)
      clear hv2 hV1
      have hA := (Below.refl (v2).heap.size v2).alloc (Nat.le_refl _) (.cells #[.int .i64 p1, .int .i64 p2, .int .i64 p3] 57)
      have hX := Box.new v2 p1 p2 p3 57
      obtain ⟨V2, hW⟩ : ∃ W, (v2).alloc (.cells #[.int .i64 p1, .int .i64 p2, .int .i64 p3] 57) = W := ⟨_, rfl⟩
      rw [hW] at hA hX
      have XR := Lib.hid hX
      have hW2 := (hV2).trans (hA.mono (hV2).size)
      clear hX
      clear hA hV2
      go_wp2_with fail
      clear hW
      refine (k_RFs t p1 p2 p3 p4 p5 HP1.out HP2.out HP3.out HP4.out HP5.out (by omega) _).mono ?_
      rintro e v3 ⟨rfl, hv3⟩
      have XR3 := Lib.hid (XR.out.below hv3)
      have hV3 := hW2.trans (hv3.mono hW2.size)
      clear hv3 hW2 XR
      have hA := (Below.refl (v3).heap.size v3).alloc (Nat.le_refl _) (.cells #[.int .i64 p1, .int .i64 p2, .int .i64 p3] 57)
      have hX := Box.new v3 p1 p2 p3 57
      obtain ⟨V3, hW⟩ : ∃ W, (v3).alloc (.cells #[.int .i64 p1, .int .i64 p2, .int .i64 p3] 57) = W := ⟨_, rfl⟩
      rw [hW] at hA hX
      have XS := Lib.hid hX
      have hW3 := (hV3).trans (hA.mono (hV3).size)
      clear hX
      have XR4 := Lib.hid (XR3.out.below hA)
      obtain ⟨⟨k0, k1, k2⟩, _, _, _⟩ := XR4.out
      obtain ⟨⟨j0, j1, j2⟩, _, _, _⟩ := XS.out
      clear hA hV3 XR3
      go_wp2_with fail
      clear hW k0 k1 k2 j0 j1 j2 XR4 XS
      refine (c_DrawParseFrameText A n c l _ HL.out hn (holds_belowU HH.out hW3)).mono ?_
      rintro e v4 ⟨u, hu3, rfl, hv4⟩
      obtain ⟨q1, hq1⟩ : ∃ p, P.pfA u = p := ⟨_, rfl⟩
      obtain ⟨q2, hq2⟩ : ∃ p, P.pfB u = p := ⟨_, rfl⟩
      obtain ⟨q3, hq3⟩ : ∃ p, P.pfC u = p := ⟨_, rfl⟩
      obtain ⟨q4, hq4⟩ : ∃ p, P.pfOk u = p := ⟨_, rfl⟩
      have HQ1 := Lib.hid hq1
      have HQ2 := Lib.hid hq2
      have HQ3 := Lib.hid hq3
      have HQ4 := Lib.hid hq4
      have hV4 := hW3.trans (hv4.mono hW3.size)
      clear hq1 hq2 hq3 hq4 hv4 hW3
      go_wp2_with fail
      refine (k_PF u q1 q2 q3 q4 HQ1.out HQ2.out HQ3.out HQ4.out (by omega) _).mono ?_
      rintro e v5 ⟨rfl, hv5⟩
      have hV5 := hV4.trans (hv5.mono hV4.size)
      clear hv5 hV4
      have hA := (Below.refl (v5).heap.size v5).alloc (Nat.le_refl _) (.cells #[.int .i64 q1, .int .i64 q2, .int .i64 q3] 57)
      have hX := Box.new v5 q1 q2 q3 57
      obtain ⟨V5, hW⟩ : ∃ W, (v5).alloc (.cells #[.int .i64 q1, .int .i64 q2, .int .i64 q3] 57) = W := ⟨_, rfl⟩
      rw [hW] at hA hX
      have XP := Lib.hid hX
      have hW5 := (hV5).trans (hA.mono (hV5).size)
      clear hX
      obtain ⟨⟨k0, k1, k2⟩, _, _, _⟩ := XP.out
      clear hA hV5
      cases q4 with
      | true =>
        have h2 := frm2 HQ4.out
        rw [HQ1.out, HQ2.out, HQ3.out] at h2
        have HT2 := Lib.hid h2
        clear h2
        go_wp2_with fail
        clear hW k0 k1 k2
        refine (k_FT q1 q2 q3 u true HT2.out.2 HT2.out.1 _).mono ?_
        rintro e v6 ⟨rfl, hv6⟩
        have XP6 := Lib.hid (XP.out.below hv6)
        have hV6 := hW5.trans (hv6.mono hW5.size)
        clear hv6
        go_wp2_with fail
        refine (k_PFs u q1 q2 q3 true HQ1.out HQ2.out HQ3.out HQ4.out (by omega) _).mono ?_
        rintro e v7 ⟨rfl, hv7⟩
        have XP7 := Lib.hid (XP6.out.below hv7)
        have hV7 := hV6.trans (hv7.mono hV6.size)
        clear hv7 hV6
        have hA := (Below.refl (v7).heap.size v7).alloc (Nat.le_refl _) (.cells #[.int .i64 q1, .int .i64 q2, .int .i64 q3] 57)
        have hX := Box.new v7 q1 q2 q3 57
        obtain ⟨V7, hW⟩ : ∃ W, (v7).alloc (.cells #[.int .i64 q1, .int .i64 q2, .int .i64 q3] 57) = W := ⟨_, rfl⟩
        rw [hW] at hA hX
        have XQ := Lib.hid hX
        have hW7 := (hV7).trans (hA.mono (hV7).size)
        clear hX
        have XP8 := Lib.hid (XP7.out.below hA)
        obtain ⟨⟨k0, k1, k2⟩, _, _, _⟩ := XP8.out
        obtain ⟨⟨j0, j1, j2⟩, _, _, _⟩ := XQ.out
        clear hA hV7
        go_wp2
        go_ret
        exact ⟨ret_bool (by first | rfl | simp | decide), hW7⟩
      | false =>
        obtain ⟨T, hT⟩ : ∃ T, P.ftL q1 q2 q3 = T := ⟨_, rfl⟩
        obtain ⟨o, ho⟩ : ∃ o, frOk q1 q2 q3 = o := ⟨_, rfl⟩
        have HTT := Lib.hid hT
        have HTO := Lib.hid ho
        clear hT ho
        go_wp2_with fail
        clear hW k0 k1 k2
        refine (k_FT q1 q2 q3 T o HTT.out HTO.out _).mono ?_
        rintro e v6 ⟨rfl, hv6⟩
        have XP6 := Lib.hid (XP.out.below hv6)
        have hV6 := hW5.trans (hv6.mono hW5.size)
        clear hv6
        go_wp2_with fail
        refine (k_PFs u q1 q2 q3 false HQ1.out HQ2.out HQ3.out HQ4.out (by omega) _).mono ?_
        rintro e v7 ⟨rfl, hv7⟩
        have XP7 := Lib.hid (XP6.out.below hv7)
        have hV7 := hV6.trans (hv7.mono hV6.size)
        clear hv7 hV6
        have hA := (Below.refl (v7).heap.size v7).alloc (Nat.le_refl _) (.cells #[.int .i64 q1, .int .i64 q2, .int .i64 q3] 57)
        have hX := Box.new v7 q1 q2 q3 57
        obtain ⟨V7, hW⟩ : ∃ W, (v7).alloc (.cells #[.int .i64 q1, .int .i64 q2, .int .i64 q3] 57) = W := ⟨_, rfl⟩
        rw [hW] at hA hX
        have XQ := Lib.hid hX
        have hW7 := (hV7).trans (hA.mono (hV7).size)
        clear hX
        have XP8 := Lib.hid (XP7.out.below hA)
        obtain ⟨⟨k0, k1, k2⟩, _, _, _⟩ := XP8.out
        obtain ⟨⟨j0, j1, j2⟩, _, _, _⟩ := XQ.out
        clear hA hV7
        go_wp2
        go_ret
        exact ⟨ret_bool (by first | rfl | simp | decide), hW7⟩
    | true =>
      obtain ⟨s', x, k, m1, m2, ⟨m3, m4, m5, m6⟩, ⟨m7, m8⟩, m9, m10, m11, ⟨m12, m13⟩, m14, m15, m16, ⟨r1, r2, r3, r4, r5⟩, m17, t1, t2, t3, t4⟩ := frm1 HO.out
      have hss : s' = s := by rw [← m1, HS.out]
      subst hss
      have hdd := (P.frB_iff.1 (show P.frB a b d = true from HO.out)).2.2
      obtain ⟨y, hy⟩ : ∃ y, P.flipL x k = y := ⟨_, rfl⟩
      rw [hy] at m13 m14 m15 m16 r1 r2 r3 r4 r5 m17
      obtain ⟨z, hz⟩ : ∃ z, hoL y = z := ⟨_, rfl⟩
      rw [hz] at m16 r1 r2 r3 r4 r5 m17
      obtain ⟨T, hT⟩ : ∃ T, P.ftL a b d = T := ⟨_, rfl⟩
      rw [hT] at t1 t2 t3 t4
      have hTl : T.length ≤ 30 := P.pf_len t1
      obtain ⟨D1, hD1⟩ : ∃ p, dfA z = p := ⟨_, rfl⟩
      obtain ⟨D2, hD2⟩ : ∃ p, dfB z = p := ⟨_, rfl⟩
      obtain ⟨D3, hD3⟩ : ∃ p, dfC z = p := ⟨_, rfl⟩
      have M3 := Lib.hid m3
      have M4 := Lib.hid m4
      have M5 := Lib.hid m5
      have M6 := Lib.hid m6
      have M7 := Lib.hid m7
      have M8 := Lib.hid m8
      have M12 := Lib.hid m12
      have M13 := Lib.hid m13
      have M15 := Lib.hid m15
      have MZ := Lib.hid hz
      have MT := Lib.hid hT
      have R1 := Lib.hid r1
      have R2 := Lib.hid r2
      have R3 := Lib.hid r3
      have R4 := Lib.hid r4
      have R5 := Lib.hid r5
      have M17 := Lib.hid m17
      have T1 := Lib.hid t1
      have T2 := Lib.hid t2
      have T3 := Lib.hid t3
      have T4 := Lib.hid t4
      have HD1 := Lib.hid hD1
      have HD2 := Lib.hid hD2
      have HD3 := Lib.hid hD3
      have hxs : (((bs x).size : Int) != 56) = false := by rw [bne_eq_false_iff_eq, bs_size, m9]; rfl
      clear m1 m3 m4 m5 m6 m7 m8 m12 m13 m15 hz hT r1 r2 r3 r4 r5 m17 t1 t2 t3 t4 hD1 hD2 hD3 hy
      go_wp2_with fail
      refine (k_DF s' a b d true M4.out M5.out M6.out M3.out (by omega) _).mono ?_
      rintro e w5 ⟨rfl, hb5⟩
      have XF5 := Lib.hid (XF4.out.below hb5)
      have hB5 := hB4.trans (hb5.mono hB4.size)
      clear hb5 hB4 XF4
      have hA := (Below.refl (w5).heap.size w5).alloc (Nat.le_refl _) (.cells #[.int .i64 a, .int .i64 b, .int .i64 d] 57)
      have hX := Box.new w5 a b d 57
      obtain ⟨W5, hW⟩ : ∃ W, (w5).alloc (.cells #[.int .i64 a, .int .i64 b, .int .i64 d] 57) = W := ⟨_, rfl⟩
      rw [hW] at hA hX
      have XG := Lib.hid hX
      have hC5 := (hB5).trans (hA.mono (hB5).size)
      clear hX
      have XF6 := Lib.hid (XF5.out.below hA)
      clear hA hB5 XF5
      go_wp2_with fail
      clear hW
      refine (k_BH s' x true M8.out M7.out (by omega) _).mono ?_
      rintro e w6 ⟨rfl, hb6⟩
      have XF7 := Lib.hid (XF6.out.below hb6)
      have XG7 := Lib.hid (XG.out.below hb6)
      have hB6 := hC5.trans (hb6.mono hC5.size)
      obtain ⟨⟨k0, k1, k2⟩, _, _, _⟩ := XF7.out
      obtain ⟨⟨j0, j1, j2⟩, _, _, _⟩ := XG7.out
      clear hb6 hC5 XF6 XG
      go_wp2_with fail
      try rw [m10]
      clear j0 j1 j2 XG7 k0 k1 k2 hxs
      refine (k_FB x k y true M13.out M12.out (by omega) _).mono ?_
      rintro e w7 ⟨rfl, hb7⟩
      have XF8 := Lib.hid (XF7.out.below hb7)
      have hB7 := hB6.trans (hb7.mono hB6.size)
      clear hb7 hB6 XF7
      go_wp2_with fail
      refine (k_HO y z true MZ.out M15.out (by omega) _).mono ?_
      rintro e w' ⟨rfl, rfl⟩
      go_wp2_with fail
      refine (k_RF z a b d k true R2.out R3.out R4.out R5.out R1.out (by omega) _).mono ?_
      rintro e w8 ⟨rfl, hb8⟩
      have XF9 := Lib.hid (XF8.out.below hb8)
      have hB8 := hB7.trans (hb8.mono hB7.size)
      clear hb8 hB7 XF8
      have hA := (Below.refl (w8).heap.size w8).alloc (Nat.le_refl _) (.cells #[.int .i64 a, .int .i64 b, .int .i64 d] 57)
      have hX := Box.new w8 a b d 57
      obtain ⟨W8, hW⟩ : ∃ W, (w8).alloc (.cells #[.int .i64 a, .int .i64 b, .int .i64 d] 57) = W := ⟨_, rfl⟩
      rw [hW] at hA hX
      have XH := Lib.hid hX
      have hC8 := (hB8).trans (hA.mono (hB8).size)
      clear hX
      have XF10 := Lib.hid (XF9.out.below hA)
      clear hA hB8 XF9
      go_wp2_with fail
      clear hW
      refine (k_DF z D1 D2 D3 false HD1.out HD2.out HD3.out M17.out (by omega) _).mono ?_
      rintro e w9 ⟨rfl, hb9⟩
      have XF11 := Lib.hid (XF10.out.below hb9)
      have XH11 := Lib.hid (XH.out.below hb9)
      have hB9 := hC8.trans (hb9.mono hC8.size)
      clear hb9 hC8 XF10 XH
      have hA := (Below.refl (w9).heap.size w9).alloc (Nat.le_refl _) (.cells #[.int .i64 D1, .int .i64 D2, .int .i64 D3] 57)
      have hX := Box.new w9 D1 D2 D3 57
      obtain ⟨W9, hW⟩ : ∃ W, (w9).alloc (.cells #[.int .i64 D1, .int .i64 D2, .int .i64 D3] 57) = W := ⟨_, rfl⟩
      rw [hW] at hA hX
      have XI := Lib.hid hX
      have hC9 := (hB9).trans (hA.mono (hB9).size)
      clear hX
      have XF12 := Lib.hid (XF11.out.below hA)
      have XH12 := Lib.hid (XH11.out.below hA)
      obtain ⟨⟨k0, k1, k2⟩, _, _, _⟩ := XF12.out
      clear hA hB9 XF11 XH11 XI
      go_wp2_with fail
      clear hW k0 k1 k2
      refine (k_FT a b d T true MT.out HO.out _).mono ?_
      rintro e w10 ⟨rfl, hb10⟩
      have XF13 := Lib.hid (XF12.out.below hb10)
      have XH13 := Lib.hid (XH12.out.below hb10)
      have hB10 := hC9.trans (hb10.mono hC9.size)
      clear hb10 hC9 XF12 XH12
      go_wp2_with fail
      refine (k_PF T a b d true T2.out T3.out T4.out T1.out (by omega) _).mono ?_
      rintro e w11 ⟨rfl, hb11⟩
      have XF14 := Lib.hid (XF13.out.below hb11)
      have XH14 := Lib.hid (XH13.out.below hb11)
      have hB11 := hB10.trans (hb11.mono hB10.size)
      clear hb11 hB10 XF13 XH13
      have hA := (Below.refl (w11).heap.size w11).alloc (Nat.le_refl _) (.cells #[.int .i64 a, .int .i64 b, .int .i64 d] 57)
      have hX := Box.new w11 a b d 57
      obtain ⟨W11, hW⟩ : ∃ W, (w11).alloc (.cells #[.int .i64 a, .int .i64 b, .int .i64 d] 57) = W := ⟨_, rfl⟩
      rw [hW] at hA hX
      have XJ := Lib.hid hX
      have hC11 := (hB11).trans (hA.mono (hB11).size)
      clear hX
      have XF15 := Lib.hid (XF14.out.below hA)
      have XH15 := Lib.hid (XH14.out.below hA)
      obtain ⟨⟨k0, k1, k2⟩, _, _, _⟩ := XF15.out
      obtain ⟨⟨j0, j1, j2⟩, _, _, _⟩ := XH15.out
      obtain ⟨⟨i0, i1, i2⟩, _, _, _⟩ := XJ.out
      clear hA hB11 XF14 XH14
      go_wp2_with fail
      clear hW k0 k1 k2 j0 j1 j2 i0 i1 i2 XF15 XH15 XJ
      refine (c_DrawRepairFrame A n c l _ HL.out hn (holds_belowU HH.out hC11)).mono ?_
      rintro e v1 ⟨t, ht3, rfl, hv1⟩
      obtain ⟨p1, hp1⟩ : ∃ p, rfA t = p := ⟨_, rfl⟩
      obtain ⟨p2, hp2⟩ : ∃ p, rfB t = p := ⟨_, rfl⟩
      obtain ⟨p3, hp3⟩ : ∃ p, rfC t = p := ⟨_, rfl⟩
      obtain ⟨p4, hp4⟩ : ∃ p, rfI t = p := ⟨_, rfl⟩
      obtain ⟨p5, hp5⟩ : ∃ p, rfOk t = p := ⟨_, rfl⟩
      have HP1 := Lib.hid hp1
      have HP2 := Lib.hid hp2
      have HP3 := Lib.hid hp3
      have HP4 := Lib.hid hp4
      have HP5 := Lib.hid hp5
      have hV1 := (hC11).trans (hv1.mono (hC11).size)
      clear hp1 hp2 hp3 hp4 hp5 hv1
      go_wp2_with fail
      refine (k_RF t p1 p2 p3 p4 p5 HP1.out HP2.out HP3.out HP4.out HP5.out (by omega) _).mono ?_
      rintro e v2 ⟨rfl, hv2⟩
      have hV2 := hV1.trans (hv2.mono hV1.size)
      clear hv2 hV1
      have hA := (Below.refl (v2).heap.size v2).alloc (Nat.le_refl _) (.cells #[.int .i64 p1, .int .i64 p2, .int .i64 p3] 57)
      have hX := Box.new v2 p1 p2 p3 57
      obtain ⟨V2, hW⟩ : ∃ W, (v2).alloc (.cells #[.int .i64 p1, .int .i64 p2, .int .i64 p3] 57) = W := ⟨_, rfl⟩
      rw [hW] at hA hX
      have XR := Lib.hid hX
      have hW2 := (hV2).trans (hA.mono (hV2).size)
      clear hX
      clear hA hV2
      go_wp2_with fail
      clear hW
      refine (k_RFs t p1 p2 p3 p4 p5 HP1.out HP2.out HP3.out HP4.out HP5.out (by omega) _).mono ?_
      rintro e v3 ⟨rfl, hv3⟩
      have XR3 := Lib.hid (XR.out.below hv3)
      have hV3 := hW2.trans (hv3.mono hW2.size)
      clear hv3 hW2 XR
      have hA := (Below.refl (v3).heap.size v3).alloc (Nat.le_refl _) (.cells #[.int .i64 p1, .int .i64 p2, .int .i64 p3] 57)
      have hX := Box.new v3 p1 p2 p3 57
      obtain ⟨V3, hW⟩ : ∃ W, (v3).alloc (.cells #[.int .i64 p1, .int .i64 p2, .int .i64 p3] 57) = W := ⟨_, rfl⟩
      rw [hW] at hA hX
      have XS := Lib.hid hX
      have hW3 := (hV3).trans (hA.mono (hV3).size)
      clear hX
      have XR4 := Lib.hid (XR3.out.below hA)
      obtain ⟨⟨k0, k1, k2⟩, _, _, _⟩ := XR4.out
      obtain ⟨⟨j0, j1, j2⟩, _, _, _⟩ := XS.out
      clear hA hV3 XR3
      go_wp2_with fail
      clear hW k0 k1 k2 j0 j1 j2 XR4 XS
      refine (c_DrawParseFrameText A n c l _ HL.out hn (holds_belowU HH.out hW3)).mono ?_
      rintro e v4 ⟨u, hu3, rfl, hv4⟩
      obtain ⟨q1, hq1⟩ : ∃ p, P.pfA u = p := ⟨_, rfl⟩
      obtain ⟨q2, hq2⟩ : ∃ p, P.pfB u = p := ⟨_, rfl⟩
      obtain ⟨q3, hq3⟩ : ∃ p, P.pfC u = p := ⟨_, rfl⟩
      obtain ⟨q4, hq4⟩ : ∃ p, P.pfOk u = p := ⟨_, rfl⟩
      have HQ1 := Lib.hid hq1
      have HQ2 := Lib.hid hq2
      have HQ3 := Lib.hid hq3
      have HQ4 := Lib.hid hq4
      have hV4 := hW3.trans (hv4.mono hW3.size)
      clear hq1 hq2 hq3 hq4 hv4 hW3
      go_wp2_with fail
      refine (k_PF u q1 q2 q3 q4 HQ1.out HQ2.out HQ3.out HQ4.out (by omega) _).mono ?_
      rintro e v5 ⟨rfl, hv5⟩
      have hV5 := hV4.trans (hv5.mono hV4.size)
      clear hv5 hV4
      have hA := (Below.refl (v5).heap.size v5).alloc (Nat.le_refl _) (.cells #[.int .i64 q1, .int .i64 q2, .int .i64 q3] 57)
      have hX := Box.new v5 q1 q2 q3 57
      obtain ⟨V5, hW⟩ : ∃ W, (v5).alloc (.cells #[.int .i64 q1, .int .i64 q2, .int .i64 q3] 57) = W := ⟨_, rfl⟩
      rw [hW] at hA hX
      have XP := Lib.hid hX
      have hW5 := (hV5).trans (hA.mono (hV5).size)
      clear hX
      obtain ⟨⟨k0, k1, k2⟩, _, _, _⟩ := XP.out
      clear hA hV5
      cases q4 with
      | true =>
        have h2 := frm2 HQ4.out
        rw [HQ1.out, HQ2.out, HQ3.out] at h2
        have HT2 := Lib.hid h2
        clear h2
        go_wp2_with fail
        clear hW k0 k1 k2
        refine (k_FT q1 q2 q3 u true HT2.out.2 HT2.out.1 _).mono ?_
        rintro e v6 ⟨rfl, hv6⟩
        have XP6 := Lib.hid (XP.out.below hv6)
        have hV6 := hW5.trans (hv6.mono hW5.size)
        clear hv6
        go_wp2_with fail
        refine (k_PFs u q1 q2 q3 true HQ1.out HQ2.out HQ3.out HQ4.out (by omega) _).mono ?_
        rintro e v7 ⟨rfl, hv7⟩
        have XP7 := Lib.hid (XP6.out.below hv7)
        have hV7 := hV6.trans (hv7.mono hV6.size)
        clear hv7 hV6
        have hA := (Below.refl (v7).heap.size v7).alloc (Nat.le_refl _) (.cells #[.int .i64 q1, .int .i64 q2, .int .i64 q3] 57)
        have hX := Box.new v7 q1 q2 q3 57
        obtain ⟨V7, hW⟩ : ∃ W, (v7).alloc (.cells #[.int .i64 q1, .int .i64 q2, .int .i64 q3] 57) = W := ⟨_, rfl⟩
        rw [hW] at hA hX
        have XQ := Lib.hid hX
        have hW7 := (hV7).trans (hA.mono (hV7).size)
        clear hX
        have XP8 := Lib.hid (XP7.out.below hA)
        obtain ⟨⟨k0, k1, k2⟩, _, _, _⟩ := XP8.out
        obtain ⟨⟨j0, j1, j2⟩, _, _, _⟩ := XQ.out
        clear hA hV7
        go_wp2
        go_ret
        exact ⟨ret_bool (by first | rfl | simp | decide), hW7⟩
      | false =>
        obtain ⟨T, hT⟩ : ∃ T, P.ftL q1 q2 q3 = T := ⟨_, rfl⟩
        obtain ⟨o, ho⟩ : ∃ o, frOk q1 q2 q3 = o := ⟨_, rfl⟩
        have HTT := Lib.hid hT
        have HTO := Lib.hid ho
        clear hT ho
        go_wp2_with fail
        clear hW k0 k1 k2
        refine (k_FT q1 q2 q3 T o HTT.out HTO.out _).mono ?_
        rintro e v6 ⟨rfl, hv6⟩
        have XP6 := Lib.hid (XP.out.below hv6)
        have hV6 := hW5.trans (hv6.mono hW5.size)
        clear hv6
        go_wp2_with fail
        refine (k_PFs u q1 q2 q3 false HQ1.out HQ2.out HQ3.out HQ4.out (by omega) _).mono ?_
        rintro e v7 ⟨rfl, hv7⟩
        have XP7 := Lib.hid (XP6.out.below hv7)
        have hV7 := hV6.trans (hv7.mono hV6.size)
        clear hv7 hV6
        have hA := (Below.refl (v7).heap.size v7).alloc (Nat.le_refl _) (.cells #[.int .i64 q1, .int .i64 q2, .int .i64 q3] 57)
        have hX := Box.new v7 q1 q2 q3 57
        obtain ⟨V7, hW⟩ : ∃ W, (v7).alloc (.cells #[.int .i64 q1, .int .i64 q2, .int .i64 q3] 57) = W := ⟨_, rfl⟩
        rw [hW] at hA hX
        have XQ := Lib.hid hX
        have hW7 := (hV7).trans (hA.mono (hV7).size)
        clear hX
        have XP8 := Lib.hid (XP7.out.below hA)
        obtain ⟨⟨k0, k1, k2⟩, _, _, _⟩ := XP8.out
        obtain ⟨⟨j0, j1, j2⟩, _, _, _⟩ := XQ.out
        clear hA hV7
        go_wp2
        go_ret
        exact ⟨ret_bool (by first | rfl | simp | decide), hW7⟩
  · go_enter Try.func12, Try.ntmps12
    go_wp2_with (go_at_call 15; refine (c_vBig A n c _).mono ?_; rintro e w' ⟨rfl, rfl⟩)
    go_ret
    exact ⟨rfl, Below.refl _ _⟩
end Go.Proofs.Ytfbanjmooknafaa
