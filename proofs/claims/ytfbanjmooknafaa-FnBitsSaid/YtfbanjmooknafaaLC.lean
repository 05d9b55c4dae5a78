/-
  The walk of the law on bits.
-/
import Derived.Test.YtfbanjmooknafaaDG
namespace Go.Proofs.Ytfbanjmooknafaa
open Go.RowKit
set_option linter.unusedSimpArgs false
set_option linter.unusedVariables false
set_option maxRecDepth 100000

theorem bits1 {n wd : Int} (h : boOk n wd = true) : noOk (boL n wd) = true ∧ noI (boL n wd) = n ∧ ((boL n wd).length : Int) = wd := by
  have h0 := h
  unfold boOk at h0
  rw [Bool.and_eq_true, P.inB_iff, P.inB_iff] at h0
  obtain ⟨⟨w0, w1⟩, n0, n1⟩ := h0
  obtain ⟨k, rfl⟩ : ∃ k : Nat, wd = (k : Int) := ⟨wd.toNat, by omega⟩
  obtain ⟨m, rfl⟩ : ∃ m : Nat, n = (m : Int) := ⟨n.toNat, by omega⟩
  have e : boL (m : Int) (k : Int) = P.bitsL m k := by unfold boL; rw [h]; rfl
  have hm : m < 2 ^ k := by
    rw [Int.toNat_natCast] at n1
    have : ((2 ^ k : Nat) : Int) = (2 : Int) ^ k := by push_cast; rfl
    omega
  have ho : noOk (P.bitsL m k) = true := by
    unfold noOk
    rw [Bool.and_eq_true, P.isBits_iff, decide_eq_true_eq, P.bitsL_len]
    exact ⟨⟨by omega, P.bitsL_bits _ _⟩, by omega⟩
  rw [e]
  refine ⟨ho, ?_, by rw [P.bitsL_len]⟩
  unfold noI; rw [ho, if_pos rfl, P.numL_bits hm]
theorem boL_len {n wd : Int} : (boL n wd).length ≤ 30 := by
  by_cases h : boOk n wd = true
  · have h3 := (bits1 h).2.2
    unfold boOk at h
    rw [Bool.and_eq_true, P.inB_iff] at h
    omega
  · unfold boL; rw [if_neg h]; simp
theorem hex1 {x : List UInt8} (h : hoOk x = true) : P.unhexOk (hoL x) = true ∧ bhL (hoL x) = x := by
  have h0 := h
  unfold hoOk at h0
  rw [Bool.and_eq_true, P.isBits_iff, decide_eq_true_eq] at h0
  obtain ⟨⟨h64, hb⟩, h4⟩ := h0
  have e : hoL x = P.hexL x := by unfold hoL; rw [h]; rfl
  obtain ⟨r1, r2⟩ := P.unhex_hexL hb h4
  have ho : P.unhexOk (P.hexL x) = true := by unfold P.unhexOk; rw [r2, P.hexL_len, decide_eq_true (by omega)]; rfl
  rw [e]
  exact ⟨ho, by unfold bhL; rw [ho, if_pos rfl, r1]⟩
theorem hex2 {x : List UInt8} (h : P.unhexOk x = true) : hoOk (bhL x) = true ∧ hoL (bhL x) = x := by
  have h0 := h
  unfold P.unhexOk at h0
  rw [Bool.and_eq_true, decide_eq_true_eq] at h0
  have e : bhL x = P.unhexL x := by unfold bhL; rw [h]; rfl
  have hl := P.unhexL_len x
  have ho : hoOk (P.unhexL x) = true := by
    unfold hoOk
    rw [Bool.and_eq_true, P.isBits_iff, decide_eq_true_eq]
    exact ⟨⟨by omega, P.unhexL_bits x⟩, by omega⟩
  rw [e]
  exact ⟨ho, by unfold hoL; rw [ho, if_pos rfl, P.hex_unhex h0.2]⟩
theorem hoL_len {x : List UInt8} : (hoL x).length ≤ 16 := by
  unfold hoL; split
  · rename_i h
    unfold hoOk at h
    rw [Bool.and_eq_true, P.isBits_iff] at h
    rw [P.hexL_len]; omega
  · simp
theorem bhL_len {x : List UInt8} : (bhL x).length ≤ 64 := by
  unfold bhL; split
  · rename_i h
    unfold P.unhexOk at h
    rw [Bool.and_eq_true, decide_eq_true_eq] at h
    rw [P.unhexL_len]; omega
  · simp
theorem ml {x : List UInt8} (h : x.length ≤ 1000) : (bs x).size ≤ maxLen := by rw [bs_size]; unfold maxLen; omega
theorem k_NumberOf (x : List UInt8) (n : Int) (o : Bool) (hT : noI x = n) (ho : noOk x = o) (hx : x.length ≤ 1000) (w : World) : Calls Try.prog 57 #[.string (bs x)] w fun e w' => e = .returned (.tuple #[.int .i64 n, .bool o]) ∧ w = w' := by
  have h := c_implNumberOf (bs x) w (ml hx)
  rw [show B (bs x) = x from rfl, hT, ho] at h; exact h
theorem k_BitsOf (a b : Int) (T : List UInt8) (o : Bool) (hT : boL a b = T) (ho : boOk a b = o) (w : World) : Calls Try.prog 56 #[.int .i64 a, .int .i64 b] w fun e w' => e = .returned (.tuple #[.string (bs T), .bool o]) ∧ Below w.heap.size w w' := by
  have h := c_implBitsOf a b w
  rw [hT, ho] at h; exact h
theorem k_BitsOfs (a b : Int) (T : List UInt8) (o : Bool) (hT : boL a b = T) (ho : boOk a b = o) (w : World) : Calls Try.prog 58 #[.int .i64 a, .int .i64 b] w fun e w' => e = .returned (.tuple #[.string (bs T), .bool o]) ∧ Below w.heap.size w w' := by
  have h := c_specBitsOf a b w
  rw [hT, ho] at h; exact h
theorem k_HexOf (x T : List UInt8) (o : Bool) (hT : hoL x = T) (ho : hoOk x = o) (hx : x.length ≤ 1000) (w : World) : Calls Try.prog 60 #[.string (bs x)] w fun e w' => e = .returned (.tuple #[.string (bs T), .bool o]) ∧ w = w' := by
  have h := c_implHexOf (bs x) w (ml hx)
  rw [show B (bs x) = x from rfl, hT, ho] at h; exact h
theorem k_HexOfs (x T : List UInt8) (o : Bool) (hT : hoL x = T) (ho : hoOk x = o) (hx : x.length ≤ 1000) (w : World) : Calls Try.prog 62 #[.string (bs x)] w fun e w' => e = .returned (.tuple #[.string (bs T), .bool o]) ∧ w = w' := by
  have h := c_specHexOf (bs x) w (ml hx)
  rw [show B (bs x) = x from rfl, hT, ho] at h; exact h
theorem k_UnHex (x T : List UInt8) (o : Bool) (hT : bhL x = T) (ho : P.unhexOk x = o) (hx : x.length ≤ 1000) (w : World) : Calls Try.prog 61 #[.string (bs x)] w fun e w' => e = .returned (.tuple #[.string (bs T), .bool o]) ∧ Below w.heap.size w w' := by
  have h := c_implBitsFromHex (bs x) w (ml hx)
  rw [show B (bs x) = x from rfl, hT, ho] at h; exact h
theorem k_UnHexs (x T : List UInt8) (o : Bool) (hT : bhL x = T) (ho : P.unhexOk x = o) (hx : x.length ≤ 1000) (w : World) : Calls Try.prog 64 #[.string (bs x)] w fun e w' => e = .returned (.tuple #[.string (bs T), .bool o]) ∧ Below w.heap.size w w' := by
  have h := c_specBitsFromHex (bs x) w (ml hx)
  rw [show B (bs x) = x from rfl, hT, ho] at h
  exact h.mono fun _ _ hh => ⟨hh.1, hh.2.below _⟩
theorem k_IsBits (x : List UInt8) (o : Bool) (ho : P.isBits x = o) (hx : x.length ≤ 1000) (w : World) : Calls Try.prog 68 #[.string (bs x)] w fun e w' => e = .returned (.bool o) ∧ w = w' := by
  have h := c_implIsBits (bs x) w (ml hx)
  rw [show B (bs x) = x from rfl, ho] at h; exact h
theorem k_IsBitss (x : List UInt8) (o : Bool) (ho : P.isBits x = o) (hx : x.length ≤ 1000) (w : World) : Calls Try.prog 69 #[.string (bs x)] w fun e w' => e = .returned (.bool o) ∧ w = w' := by
  have h := c_specIsBits (bs x) w (ml hx)
  rw [show B (bs x) = x from rfl, ho] at h; exact h
theorem k_FieldOf (x : List UInt8) (f wd n : Int) (o : Bool) (hT : foI x f wd = n) (ho : foOk x f wd = o) (hx : x.length ≤ 1000) (hw : -1000 ≤ wd ∧ wd ≤ 1000) (w : World) : Calls Try.prog 66 #[.string (bs x), .int .i64 f, .int .i64 wd] w fun e w' => e = .returned (.tuple #[.int .i64 n, .bool o]) ∧ w = w' := by
  have h := c_implFieldOf (bs x) f wd w (ml hx) (WalkArith.wf_i64 ⟨by omega, by omega⟩)
  rw [show B (bs x) = x from rfl, hT, ho] at h; exact h
theorem k_FieldOfs (x : List UInt8) (f wd n : Int) (o : Bool) (hT : foI x f wd = n) (ho : foOk x f wd = o) (hx : x.length ≤ 1000) (hw : -1000 ≤ wd ∧ wd ≤ 1000) (w : World) : Calls Try.prog 67 #[.string (bs x), .int .i64 f, .int .i64 wd] w fun e w' => e = .returned (.tuple #[.int .i64 n, .bool o]) ∧ w = w' := by
  have h := c_specFieldOf (bs x) f wd w (ml hx) (WalkArith.wf_i64 ⟨by omega, by omega⟩)
  rw [show B (bs x) = x from rfl, hT, ho] at h; exact h
set_option maxHeartbeats 4000000 in
theorem l_FnBits (A : Option Addr) (n c : Nat) (l : List UInt8) (w : World) (hl : l.length = n) (hm : n ≤ maxLen) (h : Holds w A (ub l)) : Calls Try.prog 7 #[.slice A n c] w fun e w' => e = .returned (.bool true) ∧ Below w.heap.size w w' := by
  clear hm
  by_cases hn : n ≤ 65536
  · have HL := Lib.hid hl
    have HH := Lib.hid h
    clear hl h
    go_enter Try.func7, Try.ntmps7
    go_wp2_with (go_at_call 15; refine (c_vBig A n c _).mono ?_; rintro e w' ⟨rfl, rfl⟩)
    refine (c_DrawBitsOf A n c l _ HL.out hn HH.out).mono ?_
    rintro e w1 ⟨a, b, ⟨a0, a1⟩, ⟨b0, b1⟩, rfl, hb1⟩
    obtain ⟨s, hs⟩ : ∃ s, boL a b = s := ⟨_, rfl⟩
    obtain ⟨o, ho⟩ : ∃ o, boOk a b = o := ⟨_, rfl⟩
    have hsl := boL_len (n := a) (wd := b)
    rw [hs] at hsl
    have HS := Lib.hid hs
    have HO := Lib.hid ho
    have hss := bs_size s
    clear hs ho
    go_wp2_with fail
    refine (k_BitsOf a b s o HS.out HO.out _).mono ?_
    rintro e w2 ⟨rfl, hb2⟩
    have hB2 := hb1.trans (hb2.mono hb1.size)
    clear hb1 hb2
    cases o with
    | false =>
      obtain ⟨z, hz⟩ : ∃ z, noI s = z := ⟨_, rfl⟩
      obtain ⟨zo, hzo⟩ : ∃ zo, noOk s = zo := ⟨_, rfl⟩
      have HZ0 := Lib.hid hz
      have HZO0 := Lib.hid hzo
      clear hz hzo hss
      go_wp2_with fail
      refine (k_NumberOf s z zo HZ0.out HZO0.out (by omega) _).mono ?_
      rintro e w' ⟨rfl, rfl⟩
      go_wp2_with fail
      refine (k_BitsOfs a b s false HS.out HO.out _).mono ?_
      rintro e w3 ⟨rfl, hb3⟩
      have hB3 := hB2.trans (hb3.mono hB2.size)
      clear hb3
      go_wp2_with fail
      refine (c_DrawHexOf A n c l _ HL.out hn (holds_belowU HH.out hB3)).mono ?_
      rintro e v1 ⟨t, ht, rfl, hv1⟩
      obtain ⟨hx, hhx⟩ : ∃ hx, hoL t = hx := ⟨_, rfl⟩
      obtain ⟨to, hto⟩ : ∃ to, hoOk t = to := ⟨_, rfl⟩
      have hhl := hoL_len (x := t)
      rw [hhx] at hhl
      have HT := Lib.hid hhx
      have HTO := Lib.hid hto
      clear hhx hto
      go_wp2_with fail
      refine (k_HexOf t hx to HT.out HTO.out (by omega) _).mono ?_
      rintro e w' ⟨rfl, rfl⟩
      cases to with
      | false =>
        obtain ⟨z, hz⟩ : ∃ z, bhL hx = z := ⟨_, rfl⟩
        obtain ⟨zo, hzo⟩ : ∃ zo, P.unhexOk hx = zo := ⟨_, rfl⟩
        have HZ1 := Lib.hid hz
        have HZO1 := Lib.hid hzo
        clear hz hzo
        go_wp2_with fail
        refine (k_UnHex hx z zo HZ1.out HZO1.out (by omega) _).mono ?_
        rintro e v2 ⟨rfl, hv2⟩
        have hC2 := (hB3).trans ((hv1.trans (hv2.mono hv1.size)).mono (hB3).size)
        clear hv1 hv2
        go_wp2_with fail
        refine (k_HexOfs t hx false HT.out HTO.out (by omega) _).mono ?_
        rintro e w' ⟨rfl, rfl⟩
        go_wp2_with fail
        refine (c_DrawBitsFromHex A n c l _ HL.out hn (holds_belowU HH.out hC2)).mono ?_
        rintro e v4 ⟨u, hu, rfl, hv4⟩
        obtain ⟨v, hv⟩ : ∃ v, bhL u = v := ⟨_, rfl⟩
        obtain ⟨ko, hko⟩ : ∃ ko, P.unhexOk u = ko := ⟨_, rfl⟩
        have hvl := bhL_len (x := u)
        rw [hv] at hvl
        have HV := Lib.hid hv
        have HKO := Lib.hid hko
        clear hv hko
        go_wp2_with fail
        refine (k_UnHex u v ko HV.out HKO.out (by omega) _).mono ?_
        rintro e v5 ⟨rfl, hv5⟩
        have hC5 := (hC2).trans ((hv4.trans (hv5.mono hv4.size)).mono (hC2).size)
        clear hv4 hv5
        cases ko with
        | false =>
          obtain ⟨z, hz⟩ : ∃ z, hoL v = z := ⟨_, rfl⟩
          obtain ⟨zo, hzo⟩ : ∃ zo, hoOk v = zo := ⟨_, rfl⟩
          have HZ := Lib.hid hz
          have HZO := Lib.hid hzo
          clear hz hzo
          go_wp2_with fail
          refine (k_HexOf v z zo HZ.out HZO.out (by omega) _).mono ?_
          rintro e w' ⟨rfl, rfl⟩
          go_wp2_with fail
          refine (k_UnHexs u v false HV.out HKO.out (by omega) _).mono ?_
          rintro e v7 ⟨rfl, hv7⟩
          have hC7 := hC5.trans (hv7.mono hC5.size)
          clear hv7
          go_wp2_with fail
          refine (c_DrawFieldOf A n c l _ HL.out hn (holds_belowU HH.out hC7)).mono ?_
          rintro e v6 ⟨x, f, wd, hx, ⟨f0, f1⟩, ⟨d0, d1⟩, rfl, hv6⟩
          have hB6 := (hC7).trans (hv6.mono (hC7).size)
          clear hv6
          obtain ⟨fi, hfi⟩ : ∃ fi, foI x f wd = fi := ⟨_, rfl⟩
          obtain ⟨fo, hfo⟩ : ∃ fo, foOk x f wd = fo := ⟨_, rfl⟩
          obtain ⟨ib, hib⟩ : ∃ ib, P.isBits x = ib := ⟨_, rfl⟩
          have HFI := Lib.hid hfi
          have HFO := Lib.hid hfo
          have HIB := Lib.hid hib
          clear hfi hfo hib
          go_wp2_with fail
          refine (k_FieldOf x f wd fi fo HFI.out HFO.out (by omega) ⟨by omega, by omega⟩ _).mono ?_
          rintro e w' ⟨rfl, rfl⟩
          go_wp2_with fail
          refine (k_FieldOfs x f wd fi fo HFI.out HFO.out (by omega) ⟨by omega, by omega⟩ _).mono ?_
          rintro e w' ⟨rfl, rfl⟩
          go_wp2_with fail
          refine (k_IsBits x ib HIB.out (by omega) _).mono ?_
          rintro e w' ⟨rfl, rfl⟩
          go_wp2_with fail
          refine (k_IsBitss x ib HIB.out (by omega) _).mono ?_
          rintro e w' ⟨rfl, rfl⟩
          go_wp2
          go_ret
          exact ⟨ret_bool (by simp), hB6⟩
        | true =>
          have hh := hex2 HKO.out
          rw [HV.out] at hh
          have HHX := Lib.hid hh
          clear hh
          go_wp2_with fail
          refine (k_HexOf v u true HHX.out.2 HHX.out.1 (by omega) _).mono ?_
          rintro e w' ⟨rfl, rfl⟩
          go_wp2_with fail
          refine (k_UnHexs u v true HV.out HKO.out (by omega) _).mono ?_
          rintro e v7 ⟨rfl, hv7⟩
          have hC7 := hC5.trans (hv7.mono hC5.size)
          clear hv7
          go_wp2_with fail
          refine (c_DrawFieldOf A n c l _ HL.out hn (holds_belowU HH.out hC7)).mono ?_
          rintro e v6 ⟨x, f, wd, hx, ⟨f0, f1⟩, ⟨d0, d1⟩, rfl, hv6⟩
          have hB6 := (hC7).trans (hv6.mono (hC7).size)
          clear hv6
          obtain ⟨fi, hfi⟩ : ∃ fi, foI x f wd = fi := ⟨_, rfl⟩
          obtain ⟨fo, hfo⟩ : ∃ fo, foOk x f wd = fo := ⟨_, rfl⟩
          obtain ⟨ib, hib⟩ : ∃ ib, P.isBits x = ib := ⟨_, rfl⟩
          have HFI := Lib.hid hfi
          have HFO := Lib.hid hfo
          have HIB := Lib.hid hib
          clear hfi hfo hib
          go_wp2_with fail
          refine (k_FieldOf x f wd fi fo HFI.out HFO.out (by omega) ⟨by omega, by omega⟩ _).mono ?_
          rintro e w' ⟨rfl, rfl⟩
          go_wp2_with fail
          refine (k_FieldOfs x f wd fi fo HFI.out HFO.out (by omega) ⟨by omega, by omega⟩ _).mono ?_
          rintro e w' ⟨rfl, rfl⟩
          go_wp2_with fail
          refine (k_IsBits x ib HIB.out (by omega) _).mono ?_
          rintro e w' ⟨rfl, rfl⟩
          go_wp2_with fail
          refine (k_IsBitss x ib HIB.out (by omega) _).mono ?_
          rintro e w' ⟨rfl, rfl⟩
          go_wp2
          go_ret
          exact ⟨ret_bool (by simp), hB6⟩
      | true =>
        have hh := hex1 HTO.out
        rw [HT.out] at hh
        have HH1 := Lib.hid hh
        clear hh
        go_wp2_with fail
        refine (k_UnHex hx t true HH1.out.2 HH1.out.1 (by omega) _).mono ?_
        rintro e v2 ⟨rfl, hv2⟩
        have hC2 := (hB3).trans ((hv1.trans (hv2.mono hv1.size)).mono (hB3).size)
        clear hv1 hv2
        go_wp2_with fail
        refine (k_HexOfs t hx true HT.out HTO.out (by omega) _).mono ?_
        rintro e w' ⟨rfl, rfl⟩
        go_wp2_with fail
        refine (c_DrawBitsFromHex A n c l _ HL.out hn (holds_belowU HH.out hC2)).mono ?_
        rintro e v4 ⟨u, hu, rfl, hv4⟩
        obtain ⟨v, hv⟩ : ∃ v, bhL u = v := ⟨_, rfl⟩
        obtain ⟨ko, hko⟩ : ∃ ko, P.unhexOk u = ko := ⟨_, rfl⟩
        have hvl := bhL_len (x := u)
        rw [hv] at hvl
        have HV := Lib.hid hv
        have HKO := Lib.hid hko
        clear hv hko
        go_wp2_with fail
        refine (k_UnHex u v ko HV.out HKO.out (by omega) _).mono ?_
        rintro e v5 ⟨rfl, hv5⟩
        have hC5 := (hC2).trans ((hv4.trans (hv5.mono hv4.size)).mono (hC2).size)
        clear hv4 hv5
        cases ko with
        | false =>
          obtain ⟨z, hz⟩ : ∃ z, hoL v = z := ⟨_, rfl⟩
          obtain ⟨zo, hzo⟩ : ∃ zo, hoOk v = zo := ⟨_, rfl⟩
          have HZ := Lib.hid hz
          have HZO := Lib.hid hzo
          clear hz hzo
          go_wp2_with fail
          refine (k_HexOf v z zo HZ.out HZO.out (by omega) _).mono ?_
          rintro e w' ⟨rfl, rfl⟩
          go_wp2_with fail
          refine (k_UnHexs u v false HV.out HKO.out (by omega) _).mono ?_
          rintro e v7 ⟨rfl, hv7⟩
          have hC7 := hC5.trans (hv7.mono hC5.size)
          clear hv7
          go_wp2_with fail
          refine (c_DrawFieldOf A n c l _ HL.out hn (holds_belowU HH.out hC7)).mono ?_
          rintro e v6 ⟨x, f, wd, hx, ⟨f0, f1⟩, ⟨d0, d1⟩, rfl, hv6⟩
          have hB6 := (hC7).trans (hv6.mono (hC7).size)
          clear hv6
          obtain ⟨fi, hfi⟩ : ∃ fi, foI x f wd = fi := ⟨_, rfl⟩
          obtain ⟨fo, hfo⟩ : ∃ fo, foOk x f wd = fo := ⟨_, rfl⟩
          obtain ⟨ib, hib⟩ : ∃ ib, P.isBits x = ib := ⟨_, rfl⟩
          have HFI := Lib.hid hfi
          have HFO := Lib.hid hfo
          have HIB := Lib.hid hib
          clear hfi hfo hib
          go_wp2_with fail
          refine (k_FieldOf x f wd fi fo HFI.out HFO.out (by omega) ⟨by omega, by omega⟩ _).mono ?_
          rintro e w' ⟨rfl, rfl⟩
          go_wp2_with fail
          refine (k_FieldOfs x f wd fi fo HFI.out HFO.out (by omega) ⟨by omega, by omega⟩ _).mono ?_
          rintro e w' ⟨rfl, rfl⟩
          go_wp2_with fail
          refine (k_IsBits x ib HIB.out (by omega) _).mono ?_
          rintro e w' ⟨rfl, rfl⟩
          go_wp2_with fail
          refine (k_IsBitss x ib HIB.out (by omega) _).mono ?_
          rintro e w' ⟨rfl, rfl⟩
          go_wp2
          go_ret
          exact ⟨ret_bool (by simp), hB6⟩
        | true =>
          have hh := hex2 HKO.out
          rw [HV.out] at hh
          have HHX := Lib.hid hh
          clear hh
          go_wp2_with fail
          refine (k_HexOf v u true HHX.out.2 HHX.out.1 (by omega) _).mono ?_
          rintro e w' ⟨rfl, rfl⟩
          go_wp2_with fail
          refine (k_UnHexs u v true HV.out HKO.out (by omega) _).mono ?_
          rintro e v7 ⟨rfl, hv7⟩
          have hC7 := hC5.trans (hv7.mono hC5.size)
          clear hv7
          go_wp2_with fail
          refine (c_DrawFieldOf A n c l _ HL.out hn (holds_belowU HH.out hC7)).mono ?_
          rintro e v6 ⟨x, f, wd, hx, ⟨f0, f1⟩, ⟨d0, d1⟩, rfl, hv6⟩
          have hB6 := (hC7).trans (hv6.mono (hC7).size)
          clear hv6
          obtain ⟨fi, hfi⟩ : ∃ fi, foI x f wd = fi := ⟨_, rfl⟩
          obtain ⟨fo, hfo⟩ : ∃ fo, foOk x f wd = fo := ⟨_, rfl⟩
          obtain ⟨ib, hib⟩ : ∃ ib, P.isBits x = ib := ⟨_, rfl⟩
          have HFI := Lib.hid hfi
          have HFO := Lib.hid hfo
          have HIB := Lib.hid hib
          clear hfi hfo hib
          go_wp2_with fail
          refine (k_FieldOf x f wd fi fo HFI.out HFO.out (by omega) ⟨by omega, by omega⟩ _).mono ?_
          rintro e w' ⟨rfl, rfl⟩
          go_wp2_with fail
          refine (k_FieldOfs x f wd fi fo HFI.out HFO.out (by omega) ⟨by omega, by omega⟩ _).mono ?_
          rintro e w' ⟨rfl, rfl⟩
          go_wp2_with fail
          refine (k_IsBits x ib HIB.out (by omega) _).mono ?_
          rintro e w' ⟨rfl, rfl⟩
          go_wp2_with fail
          refine (k_IsBitss x ib HIB.out (by omega) _).mono ?_
          rintro e w' ⟨rfl, rfl⟩
          go_wp2
          go_ret
          exact ⟨ret_bool (by simp), hB6⟩
    | true =>
      have hh := bits1 HO.out
      rw [HS.out] at hh
      have HB1 := Lib.hid hh
      have e1 : (((bs s).size : Int) != b) = false := by rw [bne_eq_false_iff_eq, hss]; exact hh.2.2
      clear hh hss
      go_wp2_with fail
      refine (k_NumberOf s a true HB1.out.2.1 HB1.out.1 (by omega) _).mono ?_
      rintro e w' ⟨rfl, rfl⟩
      go_wp2_with fail
      refine (k_BitsOfs a b s true HS.out HO.out _).mono ?_
      rintro e w3 ⟨rfl, hb3⟩
      have hB3 := hB2.trans (hb3.mono hB2.size)
      clear hb3
      go_wp2_with fail
      refine (c_DrawHexOf A n c l _ HL.out hn (holds_belowU HH.out hB3)).mono ?_
      rintro e v1 ⟨t, ht, rfl, hv1⟩
      obtain ⟨hx, hhx⟩ : ∃ hx, hoL t = hx := ⟨_, rfl⟩
      obtain ⟨to, hto⟩ : ∃ to, hoOk t = to := ⟨_, rfl⟩
      have hhl := hoL_len (x := t)
      rw [hhx] at hhl
      have HT := Lib.hid hhx
      have HTO := Lib.hid hto
      clear hhx hto
      go_wp2_with fail
      refine (k_HexOf t hx to HT.out HTO.out (by omega) _).mono ?_
      rintro e w' ⟨rfl, rfl⟩
      cases to with
      | false =>
        obtain ⟨z, hz⟩ : ∃ z, bhL hx = z := ⟨_, rfl⟩
        obtain ⟨zo, hzo⟩ : ∃ zo, P.unhexOk hx = zo := ⟨_, rfl⟩
        have HZ1 := Lib.hid hz
        have HZO1 := Lib.hid hzo
        clear hz hzo
        go_wp2_with fail
        refine (k_UnHex hx z zo HZ1.out HZO1.out (by omega) _).mono ?_
        rintro e v2 ⟨rfl, hv2⟩
        have hC2 := (hB3).trans ((hv1.trans (hv2.mono hv1.size)).mono (hB3).size)
        clear hv1 hv2
        go_wp2_with fail
        refine (k_HexOfs t hx false HT.out HTO.out (by omega) _).mono ?_
        rintro e w' ⟨rfl, rfl⟩
        go_wp2_with fail
        refine (c_DrawBitsFromHex A n c l _ HL.out hn (holds_belowU HH.out hC2)).mono ?_
        rintro e v4 ⟨u, hu, rfl, hv4⟩
        obtain ⟨v, hv⟩ : ∃ v, bhL u = v := ⟨_, rfl⟩
        obtain ⟨ko, hko⟩ : ∃ ko, P.unhexOk u = ko := ⟨_, rfl⟩
        have hvl := bhL_len (x := u)
        rw [hv] at hvl
        have HV := Lib.hid hv
        have HKO := Lib.hid hko
        clear hv hko
        go_wp2_with fail
        refine (k_UnHex u v ko HV.out HKO.out (by omega) _).mono ?_
        rintro e v5 ⟨rfl, hv5⟩
        have hC5 := (hC2).trans ((hv4.trans (hv5.mono hv4.size)).mono (hC2).size)
        clear hv4 hv5
        cases ko with
        | false =>
          obtain ⟨z, hz⟩ : ∃ z, hoL v = z := ⟨_, rfl⟩
          obtain ⟨zo, hzo⟩ : ∃ zo, hoOk v = zo := ⟨_, rfl⟩
          have HZ := Lib.hid hz
          have HZO := Lib.hid hzo
          clear hz hzo
          go_wp2_with fail
          refine (k_HexOf v z zo HZ.out HZO.out (by omega) _).mono ?_
          rintro e w' ⟨rfl, rfl⟩
          go_wp2_with fail
          refine (k_UnHexs u v false HV.out HKO.out (by omega) _).mono ?_
          rintro e v7 ⟨rfl, hv7⟩
          have hC7 := hC5.trans (hv7.mono hC5.size)
          clear hv7
          go_wp2_with fail
          refine (c_DrawFieldOf A n c l _ HL.out hn (holds_belowU HH.out hC7)).mono ?_
          rintro e v6 ⟨x, f, wd, hx, ⟨f0, f1⟩, ⟨d0, d1⟩, rfl, hv6⟩
          have hB6 := (hC7).trans (hv6.mono (hC7).size)
          clear hv6
          obtain ⟨fi, hfi⟩ : ∃ fi, foI x f wd = fi := ⟨_, rfl⟩
          obtain ⟨fo, hfo⟩ : ∃ fo, foOk x f wd = fo := ⟨_, rfl⟩
          obtain ⟨ib, hib⟩ : ∃ ib, P.isBits x = ib := ⟨_, rfl⟩
          have HFI := Lib.hid hfi
          have HFO := Lib.hid hfo
          have HIB := Lib.hid hib
          clear hfi hfo hib
          go_wp2_with fail
          refine (k_FieldOf x f wd fi fo HFI.out HFO.out (by omega) ⟨by omega, by omega⟩ _).mono ?_
          rintro e w' ⟨rfl, rfl⟩
          go_wp2_with fail
          refine (k_FieldOfs x f wd fi fo HFI.out HFO.out (by omega) ⟨by omega, by omega⟩ _).mono ?_
          rintro e w' ⟨rfl, rfl⟩
          go_wp2_with fail
          refine (k_IsBits x ib HIB.out (by omega) _).mono ?_
          rintro e w' ⟨rfl, rfl⟩
          go_wp2_with fail
          refine (k_IsBitss x ib HIB.out (by omega) _).mono ?_
          rintro e w' ⟨rfl, rfl⟩
          go_wp2
          go_ret
          exact ⟨ret_bool (by simp), hB6⟩
        | true =>
          have hh := hex2 HKO.out
          rw [HV.out] at hh
          have HHX := Lib.hid hh
          clear hh
          go_wp2_with fail
          refine (k_HexOf v u true HHX.out.2 HHX.out.1 (by omega) _).mono ?_
          rintro e w' ⟨rfl, rfl⟩
          go_wp2_with fail
          refine (k_UnHexs u v true HV.out HKO.out (by omega) _).mono ?_
          rintro e v7 ⟨rfl, hv7⟩
          have hC7 := hC5.trans (hv7.mono hC5.size)
          clear hv7
          go_wp2_with fail
          refine (c_DrawFieldOf A n c l _ HL.out hn (holds_belowU HH.out hC7)).mono ?_
          rintro e v6 ⟨x, f, wd, hx, ⟨f0, f1⟩, ⟨d0, d1⟩, rfl, hv6⟩
          have hB6 := (hC7).trans (hv6.mono (hC7).size)
          clear hv6
          obtain ⟨fi, hfi⟩ : ∃ fi, foI x f wd = fi := ⟨_, rfl⟩
          obtain ⟨fo, hfo⟩ : ∃ fo, foOk x f wd = fo := ⟨_, rfl⟩
          obtain ⟨ib, hib⟩ : ∃ ib, P.isBits x = ib := ⟨_, rfl⟩
          have HFI := Lib.hid hfi
          have HFO := Lib.hid hfo
          have HIB := Lib.hid hib
          clear hfi hfo hib
          go_wp2_with fail
          refine (k_FieldOf x f wd fi fo HFI.out HFO.out (by omega) ⟨by omega, by omega⟩ _).mono ?_
          rintro e w' ⟨rfl, rfl⟩
          go_wp2_with fail
          refine (k_FieldOfs x f wd fi fo HFI.out HFO.out (by omega) ⟨by omega, by omega⟩ _).mono ?_
          rintro e w' ⟨rfl, rfl⟩
          go_wp2_with fail
          refine (k_IsBits x ib HIB.out (by omega) _).mono ?_
          rintro e w' ⟨rfl, rfl⟩
          go_wp2_with fail
          refine (k_IsBitss x ib HIB.out (by omega) _).mono ?_
          rintro e w' ⟨rfl, rfl⟩
          go_wp2
          go_ret
          exact ⟨ret_bool (by simp), hB6⟩
      | true =>
        have hh := hex1 HTO.out
        rw [HT.out] at hh
        have HH1 := Lib.hid hh
        clear hh
        go_wp2_with fail
        refine (k_UnHex hx t true HH1.out.2 HH1.out.1 (by omega) _).mono ?_
        rintro e v2 ⟨rfl, hv2⟩
        have hC2 := (hB3).trans ((hv1.trans (hv2.mono hv1.size)).mono (hB3).size)
        clear hv1 hv2
        go_wp2_with fail
        refine (k_HexOfs t hx true HT.out HTO.out (by omega) _).mono ?_
        rintro e w' ⟨rfl, rfl⟩
        go_wp2_with fail
        refine (c_DrawBitsFromHex A n c l _ HL.out hn (holds_belowU HH.out hC2)).mono ?_
        rintro e v4 ⟨u, hu, rfl, hv4⟩
        obtain ⟨v, hv⟩ : ∃ v, bhL u = v := ⟨_, rfl⟩
        obtain ⟨ko, hko⟩ : ∃ ko, P.unhexOk u = ko := ⟨_, rfl⟩
        have hvl := bhL_len (x := u)
        rw [hv] at hvl
        have HV := Lib.hid hv
        have HKO := Lib.hid hko
        clear hv hko
        go_wp2_with fail
        refine (k_UnHex u v ko HV.out HKO.out (by omega) _).mono ?_
        rintro e v5 ⟨rfl, hv5⟩
        have hC5 := (hC2).trans ((hv4.trans (hv5.mono hv4.size)).mono (hC2).size)
        clear hv4 hv5
        cases ko with
        | false =>
          obtain ⟨z, hz⟩ : ∃ z, hoL v = z := ⟨_, rfl⟩
          obtain ⟨zo, hzo⟩ : ∃ zo, hoOk v = zo := ⟨_, rfl⟩
          have HZ := Lib.hid hz
          have HZO := Lib.hid hzo
          clear hz hzo
          go_wp2_with fail
          refine (k_HexOf v z zo HZ.out HZO.out (by omega) _).mono ?_
          rintro e w' ⟨rfl, rfl⟩
          go_wp2_with fail
          refine (k_UnHexs u v false HV.out HKO.out (by omega) _).mono ?_
          rintro e v7 ⟨rfl, hv7⟩
          have hC7 := hC5.trans (hv7.mono hC5.size)
          clear hv7
          go_wp2_with fail
          refine (c_DrawFieldOf A n c l _ HL.out hn (holds_belowU HH.out hC7)).mono ?_
          rintro e v6 ⟨x, f, wd, hx, ⟨f0, f1⟩, ⟨d0, d1⟩, rfl, hv6⟩
          have hB6 := (hC7).trans (hv6.mono (hC7).size)
          clear hv6
          obtain ⟨fi, hfi⟩ : ∃ fi, foI x f wd = fi := ⟨_, rfl⟩
          obtain ⟨fo, hfo⟩ : ∃ fo, foOk x f wd = fo := ⟨_, rfl⟩
          obtain ⟨ib, hib⟩ : ∃ ib, P.isBits x = ib := ⟨_, rfl⟩
          have HFI := Lib.hid hfi
          have HFO := Lib.hid hfo
          have HIB := Lib.hid hib
          clear hfi hfo hib
          go_wp2_with fail
          refine (k_FieldOf x f wd fi fo HFI.out HFO.out (by omega) ⟨by omega, by omega⟩ _).mono ?_
          rintro e w' ⟨rfl, rfl⟩
          go_wp2_with fail
          refine (k_FieldOfs x f wd fi fo HFI.out HFO.out (by omega) ⟨by omega, by omega⟩ _).mono ?_
          rintro e w' ⟨rfl, rfl⟩
          go_wp2_with fail
          refine (k_IsBits x ib HIB.out (by omega) _).mono ?_
          rintro e w' ⟨rfl, rfl⟩
          go_wp2_with fail
          refine (k_IsBitss x ib HIB.out (by omega) _).mono ?_
          rintro e w' ⟨rfl, rfl⟩
          go_wp2
          go_ret
          exact ⟨ret_bool (by simp), hB6⟩
        | true =>
          have hh := hex2 HKO.out
          rw [HV.out] at hh
          have HHX := Lib.hid hh
          clear hh
          go_wp2_with fail
          refine (k_HexOf v u true HHX.out.2 HHX.out.1 (by omega) _).mono ?_
          rintro e w' ⟨rfl, rfl⟩
          go_wp2_with fail
          refine (k_UnHexs u v true HV.out HKO.out (by omega) _).mono ?_
          rintro e v7 ⟨rfl, hv7⟩
          have hC7 := hC5.trans (hv7.mono hC5.size)
          clear hv7
          go_wp2_with fail
          refine (c_DrawFieldOf A n c l _ HL.out hn (holds_belowU HH.out hC7)).mono ?_
          rintro e v6 ⟨x, f, wd, hx, ⟨f0, f1⟩, ⟨d0, d1⟩, rfl, hv6⟩
          have hB6 := (hC7).trans (hv6.mono (hC7).size)
          clear hv6
          obtain ⟨fi, hfi⟩ : ∃ fi, foI x f wd = fi := ⟨_, rfl⟩
          obtain ⟨fo, hfo⟩ : ∃ fo, foOk x f wd = fo := ⟨_, rfl⟩
          obtain ⟨ib, hib⟩ : ∃ ib, P.isBits x = ib := ⟨_, rfl⟩
          have HFI := Lib.hid hfi
          have HFO := Lib.hid hfo
          have HIB := Lib.hid hib
          clear hfi hfo hib
          go_wp2_with fail
          refine (k_FieldOf x f wd fi fo HFI.out HFO.out (by omega) ⟨by omega, by omega⟩ _).mono ?_
          rintro e w' ⟨rfl, rfl⟩
          go_wp2_with fail
          refine (k_FieldOfs x f wd fi fo HFI.out HFO.out (by omega) ⟨by omega, by omega⟩ _).mono ?_
          rintro e w' ⟨rfl, rfl⟩
          go_wp2_with fail
          refine (k_IsBits x ib HIB.out (by omega) _).mono ?_
          rintro e w' ⟨rfl, rfl⟩
          go_wp2_with fail
          refine (k_IsBitss x ib HIB.out (by omega) _).mono ?_
          rintro e w' ⟨rfl, rfl⟩
          go_wp2
          go_ret
          exact ⟨ret_bool (by simp), hB6⟩
  · go_enter Try.func7, Try.ntmps7
    go_wp2_with (go_at_call 15; refine (c_vBig A n c _).mono ?_; rintro e w' ⟨rfl, rfl⟩)
    go_ret
    exact ⟨rfl, Below.refl _ _⟩
end Go.Proofs.Ytfbanjmooknafaa
