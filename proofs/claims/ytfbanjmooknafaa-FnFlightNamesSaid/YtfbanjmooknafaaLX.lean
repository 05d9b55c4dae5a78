/-
  The walk of the law on flight names.
-/
import Derived.Test.YtfbanjmooknafaaLW
import Derived.Test.YtfbanjmooknafaaDW
namespace Go.Proofs.Ytfbanjmooknafaa
open Go.RowKit Go.ChangeShapes Go.WideShapes Go.ChangeAt Go.Joins Go.Deep
set_option linter.unusedSimpArgs false
set_option linter.unusedVariables false
set_option maxRecDepth 100000

theorem k_NBs (x y : List UInt8) (o : Bool) (hy : nbS x = y) (ho : P.nameB x = o) (hx : x.length ≤ 1000) (w : World) : Calls Try.prog 89 #[.string (bs x)] w fun e w' => e = .returned (.tuple #[.string (bs y), .bool o]) ∧ Below w.heap.size w w' := by
  have h := c_specNameBits (bs x) w (ml3 hx)
  rw [show B (bs x) = x from rfl, hy, ho] at h
  exact h
theorem k_NBi (x y : List UInt8) (o : Bool) (hy : nbS x = y) (ho : P.nameB x = o) (hx : x.length ≤ 1000) (w : World) : Calls Try.prog 88 #[.string (bs x)] w fun e w' => e = .returned (.tuple #[.string (bs y), .bool o]) ∧ Below w.heap.size w w' := by
  have h := c_implNameBits (bs x) w (ml3 hx)
  rw [show B (bs x) = x from rfl, hy, ho] at h
  exact h
theorem k_IF (x : List UInt8) (o : Bool) (ho : P.nameB x = o) (hx : x.length ≤ 1000) (w : World) : Calls Try.prog 90 #[.string (bs x)] w fun e w' => e = .returned (.bool o) ∧ w = w' := by
  have h := c_implIsFlightName (bs x) w (ml3 hx)
  rw [show B (bs x) = x from rfl, ho] at h
  exact h
theorem k_NPi (x : List UInt8) (p i : Int) (o : Bool) (hi : npI x p = i) (ho : npOk x p = o) (hx : x.length ≤ 1000) (w : World) : Calls Try.prog 92 #[.string (bs x), .int .i64 p] w fun e w' => e = .returned (.tuple #[.int .i64 i, .bool o]) ∧ Below w.heap.size w w' := by
  have h := c_implNamePart (bs x) p w (ml3 hx)
  rw [show B (bs x) = x from rfl, hi, ho] at h
  exact h
theorem k_PB (x y : List UInt8) (o : Bool) (hy : pbS x = y) (ho : pbOk x = o) (hx : x.length ≤ 1000) (w : World) : Calls Try.prog 91 #[.string (bs x)] w fun e w' => e = .returned (.tuple #[.string (bs y), .bool o]) ∧ Below w.heap.size w w' := by
  have h := c_implParseNameBits (bs x) w (ml3 hx)
  rw [show B (bs x) = x from rfl, hy, ho] at h
  exact h
theorem k_PBs (x y : List UInt8) (o : Bool) (hy : pbS x = y) (ho : pbOk x = o) (hx : x.length ≤ 1000) (w : World) : Calls Try.prog 95 #[.string (bs x)] w fun e w' => e = .returned (.tuple #[.string (bs y), .bool o]) ∧ Below w.heap.size w w' := by
  have h := c_specParseNameBits (bs x) w (ml3 hx)
  rw [show B (bs x) = x from rfl, hy, ho] at h
  exact h
theorem k_JN (a b : Int) (y : List UInt8) (o : Bool) (hy : pbS (jnB a b) = y) (ho : pbOk (jnB a b) = o) (w : World) : Calls Try.prog 93 #[.int .i64 a, .int .i64 b] w fun e w' => e = .returned (.tuple #[.string (bs y), .bool o]) ∧ Below w.heap.size w w' := by
  have h := c_implJoinNameParts a b w
  rw [hy, ho] at h
  exact h
theorem k_JNs (a b : Int) (y : List UInt8) (o : Bool) (hy : pbS (jnB a b) = y) (ho : pbOk (jnB a b) = o) (w : World) : Calls Try.prog 103 #[.int .i64 a, .int .i64 b] w fun e w' => e = .returned (.tuple #[.string (bs y), .bool o]) ∧ Below w.heap.size w w' := by
  have h := c_specJoinNameParts a b w
  rw [hy, ho] at h
  exact h
theorem k_LC (c : UInt8) (n : Nat) (o : Bool) (hn : P.codeN c = n) (ho : P.codeB c = o) (w : World) : Calls Try.prog 97 #[.int .u8 c.toNat] w fun e w' => e = .returned (.tuple #[.int .i64 n, .bool o]) ∧ w = w' := by
  have h := c_implLetterCode c w
  rw [hn, ho] at h
  exact h
theorem k_LCs (c : UInt8) (n : Nat) (o : Bool) (hn : P.codeN c = n) (ho : P.codeB c = o) (w : World) : Calls Try.prog 98 #[.int .u8 c.toNat] w fun e w' => e = .returned (.tuple #[.int .i64 n, .bool o]) ∧ w = w' := by
  have h := c_specLetterCode c w
  rw [hn, ho] at h
  exact h
theorem k_LO (n : Int) (c : UInt8) (o : Bool) (hc : P.ofCode n = c) (ho : P.ofCodeB n = o) (w : World) : Calls Try.prog 99 #[.int .i64 n] w fun e w' => e = .returned (.tuple #[.int .u8 c.toNat, .bool o]) ∧ w = w' := by
  have h := c_implLetterOf n w
  rw [hc, ho] at h
  exact h
theorem k_LOs (n : Int) (c : UInt8) (o : Bool) (hc : P.ofCode n = c) (ho : P.ofCodeB n = o) (w : World) : Calls Try.prog 101 #[.int .i64 n] w fun e w' => e = .returned (.tuple #[.int .u8 c.toNat, .bool o]) ∧ Below w.heap.size w w' := by
  have h := c_specLetterOf n w
  rw [hc, ho] at h
  exact h.mono (fun e w' ⟨a, b⟩ => ⟨a, b.below _⟩)
set_option maxHeartbeats 4000000 in
theorem l_FnFlightNames (A : Option Addr) (n c : Nat) (l : List UInt8) (w : World) (hl : l.length = n) (hm : n ≤ maxLen) (h : Holds w A (ub l)) : Calls Try.prog 10 #[.slice A n c] w fun e w' => e = .returned (.bool true) ∧ Below w.heap.size w w' := by
  clear hm
  by_cases hn : n ≤ 65536
  · have HL := Lib.hid hl
    have HH := Lib.hid h
    clear hl h
    go_enter Try.func10, Try.ntmps10
    go_wp2_with (go_at_call 86; refine (c_rBig A n c _).mono ?_; rintro e w' ⟨rfl, rfl⟩)
    refine (c_DrawNameBits A n c l _ HL.out hn HH.out).mono ?_
    rintro e w1 ⟨s, hs, rfl, hb1⟩
    obtain ⟨o, ho⟩ : ∃ q, P.nameB s = q := ⟨_, rfl⟩
    obtain ⟨z, hz⟩ : ∃ q, nbS s = q := ⟨_, rfl⟩
    have hzl : z.length ≤ 48 := by
      rw [← hz]; unfold nbS
      split
      · rw [P.nbL_len]; omega
      · simp
    have HO := Lib.hid ho
    have HZ := Lib.hid hz
    cases o with
    | false =>
      clear ho hz
      go_wp2_with fail
      refine (k_NBi s z false HZ.out HO.out (by omega) _).mono ?_
      rintro e w2 ⟨rfl, hb2⟩
      have hB2 := hb1.trans (hb2.mono hb1.size)
      clear hb1 hb2
      go_wp2_with fail
      refine (k_NBs s z false HZ.out HO.out (by omega) _).mono ?_
      rintro e w3 ⟨rfl, hb3⟩
      have hB3 := hB2.trans (hb3.mono hB2.size)
      clear hB2 hb3
      go_wp2_with fail
      refine (k_IF s false HO.out (by omega) _).mono ?_
      rintro e w' ⟨rfl, rfl⟩
      go_wp2_with fail
      refine (c_DrawParseNameBits A n c l _ HL.out hn (holds_belowU HH.out hB3)).mono ?_
      rintro e u1 ⟨t, ht, rfl, hu1⟩
      obtain ⟨tp, htp⟩ : ∃ q, pbS t = q := ⟨_, rfl⟩
      obtain ⟨to, hto⟩ : ∃ q, pbOk t = q := ⟨_, rfl⟩
      have HTP := Lib.hid htp
      have HTO := Lib.hid hto
      have hU1 := (hB3).trans (hu1.mono (hB3).size)
      clear htp hto hu1
      go_wp2_with fail
      refine (k_PB t tp to HTP.out HTO.out (by omega) _).mono ?_
      rintro e u2 ⟨rfl, hu2⟩
      have hU2 := hU1.trans (hu2.mono hU1.size)
      clear hu2 hU1
      go_wp2_with fail
      refine (k_PBs t tp to HTP.out HTO.out (by omega) _).mono ?_
      rintro e u3 ⟨rfl, hu3⟩
      have hU3 := hU2.trans (hu3.mono hU2.size)
      clear hu3 hU2
      go_wp2_with fail
      refine (c_DrawLetterCode A n c l _ HL.out hn (holds_belowU HH.out hU3)).mono ?_
      rintro e u4 ⟨b, rfl, hu4⟩
      have hU4 := hU3.trans (hu4.mono hU3.size)
      clear hu4 hU3
      obtain ⟨bo, hbo⟩ : ∃ q, P.codeB b = q := ⟨_, rfl⟩
      obtain ⟨bn, hbn⟩ : ∃ q, P.codeN b = q := ⟨_, rfl⟩
      have HBO := Lib.hid hbo
      have HBN := Lib.hid hbn
      cases bo with
      | true =>
        obtain ⟨hk1, hk2⟩ := P.ofCode_codeN hbo
        rw [hbn] at hk1 hk2
        have HK1 := Lib.hid hk1
        have HK2 := Lib.hid hk2
        clear hbo hbn hk1 hk2
        go_wp2_with fail
        refine (k_LC b bn true HBN.out HBO.out _).mono ?_
        rintro e w' ⟨rfl, rfl⟩
        go_wp2_with fail
        refine (k_LCs b bn true HBN.out HBO.out _).mono ?_
        rintro e w' ⟨rfl, rfl⟩
        go_wp2_with fail
        refine (k_LO bn b true HK2.out HK1.out _).mono ?_
        rintro e w' ⟨rfl, rfl⟩
        go_wp2_with fail
        refine (c_DrawLetterOf A n c l _ HL.out hn (holds_belowU HH.out hU4)).mono ?_
        rintro e v1 ⟨m, m0, m1, rfl, hv1⟩
        obtain ⟨mc, hmc⟩ : ∃ q, P.ofCode m = q := ⟨_, rfl⟩
        obtain ⟨mo, hmo⟩ : ∃ q, P.ofCodeB m = q := ⟨_, rfl⟩
        have HMC := Lib.hid hmc
        have HMO := Lib.hid hmo
        have hV1 := (hU4).trans (hv1.mono (hU4).size)
        clear hmc hmo hv1
        go_wp2_with fail
        refine (k_LO m mc mo HMC.out HMO.out _).mono ?_
        rintro e w' ⟨rfl, rfl⟩
        go_wp2_with fail
        refine (k_LOs m mc mo HMC.out HMO.out _).mono ?_
        rintro e v2 ⟨rfl, hv2⟩
        have hV2 := hV1.trans (hv2.mono hV1.size)
        clear hv2 hV1
        go_wp2_with fail
        refine (c_DrawJoinNameParts A n c l _ HL.out hn (holds_belowU HH.out hV2)).mono ?_
        rintro e v3 ⟨x, y, ⟨x0, x1⟩, ⟨y0, y1⟩, rfl, hv3⟩
        obtain ⟨js, hjs⟩ : ∃ q, pbS (jnB x y) = q := ⟨_, rfl⟩
        obtain ⟨jo, hjo⟩ : ∃ q, pbOk (jnB x y) = q := ⟨_, rfl⟩
        have HJS := Lib.hid hjs
        have HJO := Lib.hid hjo
        have hV3 := hV2.trans (hv3.mono hV2.size)
        clear hjs hjo hv3 hV2
        go_wp2_with fail
        refine (k_JN x y js jo HJS.out HJO.out _).mono ?_
        rintro e v4 ⟨rfl, hv4⟩
        have hV4 := hV3.trans (hv4.mono hV3.size)
        clear hv4 hV3
        go_wp2_with fail
        refine (k_JNs x y js jo HJS.out HJO.out _).mono ?_
        rintro e v5 ⟨rfl, hv5⟩
        have hV5 := hV4.trans (hv5.mono hV4.size)
        clear hv5 hV4
        go_wp2
        go_ret
        exact ⟨ret_bool (by first | rfl | simp | decide), hV5⟩
      | false =>
        obtain ⟨bc, hbc⟩ : ∃ q, P.ofCode (bn : Int) = q := ⟨_, rfl⟩
        obtain ⟨bk, hbk⟩ : ∃ q, P.ofCodeB (bn : Int) = q := ⟨_, rfl⟩
        have HK1 := Lib.hid hbk
        have HK2 := Lib.hid hbc
        clear hbo hbn hbc hbk
        go_wp2_with fail
        refine (k_LC b bn false HBN.out HBO.out _).mono ?_
        rintro e w' ⟨rfl, rfl⟩
        go_wp2_with fail
        refine (k_LCs b bn false HBN.out HBO.out _).mono ?_
        rintro e w' ⟨rfl, rfl⟩
        go_wp2_with fail
        refine (k_LO bn bc bk HK2.out HK1.out _).mono ?_
        rintro e w' ⟨rfl, rfl⟩
        go_wp2_with fail
        refine (c_DrawLetterOf A n c l _ HL.out hn (holds_belowU HH.out hU4)).mono ?_
        rintro e v1 ⟨m, m0, m1, rfl, hv1⟩
        obtain ⟨mc, hmc⟩ : ∃ q, P.ofCode m = q := ⟨_, rfl⟩
        obtain ⟨mo, hmo⟩ : ∃ q, P.ofCodeB m = q := ⟨_, rfl⟩
        have HMC := Lib.hid hmc
        have HMO := Lib.hid hmo
        have hV1 := (hU4).trans (hv1.mono (hU4).size)
        clear hmc hmo hv1
        go_wp2_with fail
        refine (k_LO m mc mo HMC.out HMO.out _).mono ?_
        rintro e w' ⟨rfl, rfl⟩
        go_wp2_with fail
        refine (k_LOs m mc mo HMC.out HMO.out _).mono ?_
        rintro e v2 ⟨rfl, hv2⟩
        have hV2 := hV1.trans (hv2.mono hV1.size)
        clear hv2 hV1
        go_wp2_with fail
        refine (c_DrawJoinNameParts A n c l _ HL.out hn (holds_belowU HH.out hV2)).mono ?_
        rintro e v3 ⟨x, y, ⟨x0, x1⟩, ⟨y0, y1⟩, rfl, hv3⟩
        obtain ⟨js, hjs⟩ : ∃ q, pbS (jnB x y) = q := ⟨_, rfl⟩
        obtain ⟨jo, hjo⟩ : ∃ q, pbOk (jnB x y) = q := ⟨_, rfl⟩
        have HJS := Lib.hid hjs
        have HJO := Lib.hid hjo
        have hV3 := hV2.trans (hv3.mono hV2.size)
        clear hjs hjo hv3 hV2
        go_wp2_with fail
        refine (k_JN x y js jo HJS.out HJO.out _).mono ?_
        rintro e v4 ⟨rfl, hv4⟩
        have hV4 := hV3.trans (hv4.mono hV3.size)
        clear hv4 hV3
        go_wp2_with fail
        refine (k_JNs x y js jo HJS.out HJO.out _).mono ?_
        rintro e v5 ⟨rfl, hv5⟩
        have hV5 := hV4.trans (hv5.mono hV4.size)
        clear hv5 hV4
        go_wp2
        go_ret
        exact ⟨ret_bool (by first | rfl | simp | decide), hV5⟩
    | true =>
      obtain ⟨⟨f1, f2⟩, f3, f4, f5, f6⟩ := fn1 ho
      rw [hz] at f1 f2
      obtain ⟨p0, hp0⟩ : ∃ q, npI s 0 = q := ⟨_, rfl⟩
      obtain ⟨p1, hp1⟩ : ∃ q, npI s 1 = q := ⟨_, rfl⟩
      rw [hp0, hp1] at f5 f6
      have F1 := Lib.hid f1
      have F2 := Lib.hid f2
      have F3 := Lib.hid f3
      have F4 := Lib.hid f4
      have F5 := Lib.hid f5
      have F6 := Lib.hid f6
      have P0 := Lib.hid hp0
      have P1 := Lib.hid hp1
      clear ho hz f1 f2 f3 f4 f5 f6 hp0 hp1
      go_wp2_with fail
      refine (k_NBi s z true HZ.out HO.out (by omega) _).mono ?_
      rintro e w2 ⟨rfl, hb2⟩
      have hB2 := hb1.trans (hb2.mono hb1.size)
      clear hb1 hb2
      go_wp2_with fail
      refine (k_NBs s z true HZ.out HO.out (by omega) _).mono ?_
      rintro e w3 ⟨rfl, hb3⟩
      have hB3 := hB2.trans (hb3.mono hB2.size)
      clear hB2 hb3
      go_wp2_with fail
      refine (k_IF s true HO.out (by omega) _).mono ?_
      rintro e w' ⟨rfl, rfl⟩
      go_wp2_with fail
      refine (k_PB z s true F2.out F1.out (by omega) _).mono ?_
      rintro e w4 ⟨rfl, hb4⟩
      have hB4 := hB3.trans (hb4.mono hB3.size)
      clear hB3 hb4
      go_wp2_with fail
      refine (k_NPi s 0 p0 true P0.out F3.out (by omega) _).mono ?_
      rintro e w5 ⟨rfl, hb5⟩
      have hB5 := hB4.trans (hb5.mono hB4.size)
      clear hB4 hb5
      go_wp2_with fail
      refine (k_NPi s 1 p1 true P1.out F4.out (by omega) _).mono ?_
      rintro e w6 ⟨rfl, hb6⟩
      have hB6 := hB5.trans (hb6.mono hB5.size)
      clear hB5 hb6
      go_wp2_with fail
      refine (k_JN p0 p1 s true F6.out F5.out _).mono ?_
      rintro e w7 ⟨rfl, hb7⟩
      have hB7 := hB6.trans (hb7.mono hB6.size)
      clear hB6 hb7
      go_wp2_with fail
      refine (c_DrawParseNameBits A n c l _ HL.out hn (holds_belowU HH.out hB7)).mono ?_
      rintro e u1 ⟨t, ht, rfl, hu1⟩
      obtain ⟨tp, htp⟩ : ∃ q, pbS t = q := ⟨_, rfl⟩
      obtain ⟨to, hto⟩ : ∃ q, pbOk t = q := ⟨_, rfl⟩
      have HTP := Lib.hid htp
      have HTO := Lib.hid hto
      have hU1 := (hB7).trans (hu1.mono (hB7).size)
      clear htp hto hu1
      go_wp2_with fail
      refine (k_PB t tp to HTP.out HTO.out (by omega) _).mono ?_
      rintro e u2 ⟨rfl, hu2⟩
      have hU2 := hU1.trans (hu2.mono hU1.size)
      clear hu2 hU1
      go_wp2_with fail
      refine (k_PBs t tp to HTP.out HTO.out (by omega) _).mono ?_
      rintro e u3 ⟨rfl, hu3⟩
      have hU3 := hU2.trans (hu3.mono hU2.size)
      clear hu3 hU2
      go_wp2_with fail
      refine (c_DrawLetterCode A n c l _ HL.out hn (holds_belowU HH.out hU3)).mono ?_
      rintro e u4 ⟨b, rfl, hu4⟩
      have hU4 := hU3.trans (hu4.mono hU3.size)
      clear hu4 hU3
      obtain ⟨bo, hbo⟩ : ∃ q, P.codeB b = q := ⟨_, rfl⟩
      obtain ⟨bn, hbn⟩ : ∃ q, P.codeN b = q := ⟨_, rfl⟩
      have HBO := Lib.hid hbo
      have HBN := Lib.hid hbn
      cases bo with
      | true =>
        obtain ⟨hk1, hk2⟩ := P.ofCode_codeN hbo
        rw [hbn] at hk1 hk2
        have HK1 := Lib.hid hk1
        have HK2 := Lib.hid hk2
        clear hbo hbn hk1 hk2
        go_wp2_with fail
        refine (k_LC b bn true HBN.out HBO.out _).mono ?_
        rintro e w' ⟨rfl, rfl⟩
        go_wp2_with fail
        refine (k_LCs b bn true HBN.out HBO.out _).mono ?_
        rintro e w' ⟨rfl, rfl⟩
        go_wp2_with fail
        refine (k_LO bn b true HK2.out HK1.out _).mono ?_
        rintro e w' ⟨rfl, rfl⟩
        go_wp2_with fail
        refine (c_DrawLetterOf A n c l _ HL.out hn (holds_belowU HH.out hU4)).mono ?_
        rintro e v1 ⟨m, m0, m1, rfl, hv1⟩
        obtain ⟨mc, hmc⟩ : ∃ q, P.ofCode m = q := ⟨_, rfl⟩
        obtain ⟨mo, hmo⟩ : ∃ q, P.ofCodeB m = q := ⟨_, rfl⟩
        have HMC := Lib.hid hmc
        have HMO := Lib.hid hmo
        have hV1 := (hU4).trans (hv1.mono (hU4).size)
        clear hmc hmo hv1
        go_wp2_with fail
        refine (k_LO m mc mo HMC.out HMO.out _).mono ?_
        rintro e w' ⟨rfl, rfl⟩
        go_wp2_with fail
        refine (k_LOs m mc mo HMC.out HMO.out _).mono ?_
        rintro e v2 ⟨rfl, hv2⟩
        have hV2 := hV1.trans (hv2.mono hV1.size)
        clear hv2 hV1
        go_wp2_with fail
        refine (c_DrawJoinNameParts A n c l _ HL.out hn (holds_belowU HH.out hV2)).mono ?_
        rintro e v3 ⟨x, y, ⟨x0, x1⟩, ⟨y0, y1⟩, rfl, hv3⟩
        obtain ⟨js, hjs⟩ : ∃ q, pbS (jnB x y) = q := ⟨_, rfl⟩
        obtain ⟨jo, hjo⟩ : ∃ q, pbOk (jnB x y) = q := ⟨_, rfl⟩
        have HJS := Lib.hid hjs
        have HJO := Lib.hid hjo
        have hV3 := hV2.trans (hv3.mono hV2.size)
        clear hjs hjo hv3 hV2
        go_wp2_with fail
        refine (k_JN x y js jo HJS.out HJO.out _).mono ?_
        rintro e v4 ⟨rfl, hv4⟩
        have hV4 := hV3.trans (hv4.mono hV3.size)
        clear hv4 hV3
        go_wp2_with fail
        refine (k_JNs x y js jo HJS.out HJO.out _).mono ?_
        rintro e v5 ⟨rfl, hv5⟩
        have hV5 := hV4.trans (hv5.mono hV4.size)
        clear hv5 hV4
        go_wp2
        go_ret
        exact ⟨ret_bool (by first | rfl | simp | decide), hV5⟩
      | false =>
        obtain ⟨bc, hbc⟩ : ∃ q, P.ofCode (bn : Int) = q := ⟨_, rfl⟩
        obtain ⟨bk, hbk⟩ : ∃ q, P.ofCodeB (bn : Int) = q := ⟨_, rfl⟩
        have HK1 := Lib.hid hbk
        have HK2 := Lib.hid hbc
        clear hbo hbn hbc hbk
        go_wp2_with fail
        refine (k_LC b bn false HBN.out HBO.out _).mono ?_
        rintro e w' ⟨rfl, rfl⟩
        go_wp2_with fail
        refine (k_LCs b bn false HBN.out HBO.out _).mono ?_
        rintro e w' ⟨rfl, rfl⟩
        go_wp2_with fail
        refine (k_LO bn bc bk HK2.out HK1.out _).mono ?_
        rintro e w' ⟨rfl, rfl⟩
        go_wp2_with fail
        refine (c_DrawLetterOf A n c l _ HL.out hn (holds_belowU HH.out hU4)).mono ?_
        rintro e v1 ⟨m, m0, m1, rfl, hv1⟩
        obtain ⟨mc, hmc⟩ : ∃ q, P.ofCode m = q := ⟨_, rfl⟩
        obtain ⟨mo, hmo⟩ : ∃ q, P.ofCodeB m = q := ⟨_, rfl⟩
        have HMC := Lib.hid hmc
        have HMO := Lib.hid hmo
        have hV1 := (hU4).trans (hv1.mono (hU4).size)
        clear hmc hmo hv1
        go_wp2_with fail
        refine (k_LO m mc mo HMC.out HMO.out _).mono ?_
        rintro e w' ⟨rfl, rfl⟩
        go_wp2_with fail
        refine (k_LOs m mc mo HMC.out HMO.out _).mono ?_
        rintro e v2 ⟨rfl, hv2⟩
        have hV2 := hV1.trans (hv2.mono hV1.size)
        clear hv2 hV1
        go_wp2_with fail
        refine (c_DrawJoinNameParts A n c l _ HL.out hn (holds_belowU HH.out hV2)).mono ?_
        rintro e v3 ⟨x, y, ⟨x0, x1⟩, ⟨y0, y1⟩, rfl, hv3⟩
        obtain ⟨js, hjs⟩ : ∃ q, pbS (jnB x y) = q := ⟨_, rfl⟩
        obtain ⟨jo, hjo⟩ : ∃ q, pbOk (jnB x y) = q := ⟨_, rfl⟩
        have HJS := Lib.hid hjs
        have HJO := Lib.hid hjo
        have hV3 := hV2.trans (hv3.mono hV2.size)
        clear hjs hjo hv3 hV2
        go_wp2_with fail
        refine (k_JN x y js jo HJS.out HJO.out _).mono ?_
        rintro e v4 ⟨rfl, hv4⟩
        have hV4 := hV3.trans (hv4.mono hV3.size)
        clear hv4 hV3
        go_wp2_with fail
        refine (k_JNs x y js jo HJS.out HJO.out _).mono ?_
        rintro e v5 ⟨rfl, hv5⟩
        have hV5 := hV4.trans (hv5.mono hV4.size)
        clear hv5 hV4
        go_wp2
        go_ret
        exact ⟨ret_bool (by first | rfl | simp | decide), hV5⟩
  · go_enter Try.func10, Try.ntmps10
    go_wp2_with (go_at_call 86; refine (c_rBig A n c _).mono ?_; rintro e w' ⟨rfl, rfl⟩)
    go_ret
    exact ⟨rfl, Below.refl _ _⟩
end Go.Proofs.Ytfbanjmooknafaa
