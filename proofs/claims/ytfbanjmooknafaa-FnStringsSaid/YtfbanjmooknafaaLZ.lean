/-
  The walk of the law on texts of numbers and checksums.
-/
import Derived.Test.YtfbanjmooknafaaDZ
import Derived.Test.YtfbanjmooknafaaA
import Derived.Test.YtfbanjmooknafaaR
import Derived.Test.YtfbanjmooknafaaY
import Derived.Deep.RegionHeld3
namespace Go.Proofs.Ytfbanjmooknafaa
open Go.RowKit Go.ChangeShapes Go.WideShapes Go.ChangeAt Go.Joins Go.Deep
set_option linter.unusedSimpArgs false
set_option linter.unusedVariables false
set_option maxRecDepth 100000

theorem set_split {y : List UInt8} {k : Nat} (hk : k < y.length) (d : UInt8) : y = y.take k ++ y[k] :: y.drop (k + 1) ∧ y.set k d = y.take k ++ d :: y.drop (k + 1) := by
  refine ⟨?_, ?_⟩
  · rw [← List.drop_eq_getElem_cons hk, List.take_append_drop]
  · rw [List.set_eq_take_append_cons_drop, if_pos hk]
theorem ac_law {x : List UInt8} (h : P.acOk x = true) : 0 < (P.acT x).length ∧ (P.acT x).length ≤ 4000 ∧ P.vcOk (P.acT x) = true ∧ P.vcT (P.acT x) = x ∧ ∀ k (hk : k < (P.acT x).length) (d : UInt8), d ≠ (P.acT x)[k] → P.vcOk ((P.acT x).set k d) = false := by
  have h0 := h
  unfold P.acOk at h0
  rw [Bool.and_eq_true, Bool.and_eq_true, decide_eq_true_eq, decide_eq_true_eq] at h0
  obtain ⟨⟨h1, h2⟩, h3⟩ := h0
  have h35 : (35 : UInt8) ∉ x := by
    intro hm
    have : P.hasB 35 x = true := by unfold P.hasB; simpa using hm
    rw [this] at h2; cases h2
  have e : P.acT x = P.slT x := by unfold P.acT; rw [if_pos h]
  rw [e]
  have hh := P.hd_slT h35
  have hl := P.slT_len x
  have hv : P.vcOk (P.slT x) = true := by unfold P.vcOk; rw [hh, decide_eq_true h3, decide_eq_true rfl]; rfl
  refine ⟨by omega, h3, hv, by unfold P.vcT; rw [if_pos hv, hh], fun k hk d hd => ?_⟩
  obtain ⟨e1, e2⟩ := set_split hk d
  rw [Bool.eq_false_iff]
  intro hc
  unfold P.vcOk at hc
  rw [Bool.and_eq_true, decide_eq_true_eq, decide_eq_true_eq, e2] at hc
  exact P.slT_found h35 e1 hd hc.2
theorem fi_law {n : Int} (h : P.fiOk n = true) : P.okP (P.fiT n) = true ∧ P.piI (P.fiT n) = n ∧ (P.fiT n).length ≤ 7 := by
  have hb := P.inB_iff.1 (show P.inB n (-999999) 999999 = true from h)
  obtain ⟨p1, p2⟩ := P.okP_txt hb.1 hb.2
  have e : P.fiT n = P.txt n := by unfold P.fiT; rw [if_pos h]
  rw [e]
  exact ⟨p1, by unfold P.piI; rw [if_pos p1, p2], P.txt_len hb.1 hb.2⟩
theorem nil_list : (bs []).toList = [] := by
  have h := cmp_eq (a := bs []) (b := ⟨#[]⟩) rfl
  simpa using h
theorem u8_xor (a b : Nat) (ha : a < 256) (hb : b < 256) : bits .xor .u8 (a : Int) (b : Int) = ((a ^^^ b : Nat) : Int) := by
  have hx : a ^^^ b < 2 ^ 8 := Nat.xor_lt_two_pow (by omega) (by omega)
  show IntKind.u8.wrap ((BitVec.ofInt 8 (a : Int) ^^^ BitVec.ofInt 8 (b : Int)).toNat : Int) = _
  rw [BitVec.toNat_xor, BitVec.ofInt_natCast, BitVec.ofInt_natCast, BitVec.toNat_ofNat, BitVec.toNat_ofNat, Nat.mod_eq_of_lt (by omega), Nat.mod_eq_of_lt (by omega)]
  show ((a ^^^ b : Nat) : Int) % 256 = _
  omega
theorem xor_val (c : UInt8) (k : Nat) (hk : k ≤ 255) : ∃ d : UInt8, d ≠ c ∧ bits .xor .u8 (c.toNat : Int) (IntKind.u8.wrap (IntKind.i64.wrap (1 + (k : Int).tmod 255))) = (d.toNat : Int) := by
  have h1 : (k : Int).tmod 255 = ((k % 255 : Nat) : Int) := rfl
  have hm : k % 255 < 255 := Nat.mod_lt _ (by decide)
  have hc := c.toNat_lt
  obtain ⟨e, he⟩ : ∃ e, 1 + k % 255 = e := ⟨_, rfl⟩
  have h2 : IntKind.u8.wrap (IntKind.i64.wrap (1 + (k : Int).tmod 255)) = (e : Int) := by
    have hi : IntKind.i64.wrap (e : Int) = (e : Int) := by rw [IntKind.wrap_i64]; omega
    have hu : IntKind.u8.wrap (e : Int) = (e : Int) := by
      show (e : Int) % 256 = (e : Int)
      omega
    rw [h1, show (1 : Int) + ((k % 255 : Nat) : Int) = (e : Int) by omega, hi, hu]
  rw [h2, u8_xor _ _ (by omega) (by omega)]
  have h3 : (c ^^^ UInt8.ofNat e).toNat = c.toNat ^^^ e := by
    rw [UInt8.toNat_xor, UInt8.toNat_ofNat', Nat.mod_eq_of_lt (by omega)]
  refine ⟨c ^^^ UInt8.ofNat e, fun hd => ?_, by rw [h3]⟩
  have h4 : c.toNat ^^^ e = c.toNat := by rw [← h3, hd]
  have h5 : c.toNat ^^^ (c.toNat ^^^ e) = e := by rw [← Nat.xor_assoc, Nat.xor_self, Nat.zero_xor]
  rw [h4, Nat.xor_self] at h5
  omega
theorem mlz {x : List UInt8} (h : x.length ≤ 4000) : (bs x).size ≤ maxLen := by rw [bs_size]; unfold maxLen; omega
theorem kz_FI (n : Int) (t : List UInt8) (o : Bool) (ht : P.fiT n = t) (ho : P.fiOk n = o) (w : World) : Calls Try.prog 45 #[.int .i64 n] w fun e w' => e = .returned (.tuple #[.string (bs t), .bool o]) ∧ Below w.heap.size w w' := by
  have h := c_implFormatInt n w
  rw [ht, ho] at h; exact h
theorem kz_FIs (n : Int) (t : List UInt8) (o : Bool) (ht : P.fiT n = t) (ho : P.fiOk n = o) (w : World) : Calls Try.prog 46 #[.int .i64 n] w fun e w' => e = .returned (.tuple #[.string (bs t), .bool o]) ∧ Below w.heap.size w w' := by
  have h := c_specFormatInt n w
  rw [ht, ho] at h; exact h
theorem kz_PI (x : List UInt8) (i : Int) (o : Bool) (hi : P.piI x = i) (ho : P.okP x = o) (hx : x.length ≤ 4000) (w : World) : Calls Try.prog 48 #[.string (bs x)] w fun e w' => e = .returned (.tuple #[.int .i64 i, .bool o]) ∧ w = w' := by
  have h := c_implParseInt (bs x) w (mlz hx)
  rw [show B (bs x) = x from rfl, hi, ho] at h; exact h
theorem kz_PIs (x : List UInt8) (i : Int) (o : Bool) (hi : P.piI x = i) (ho : P.okP x = o) (hx : x.length ≤ 4000) (w : World) : Calls Try.prog 49 #[.string (bs x)] w fun e w' => e = .returned (.tuple #[.int .i64 i, .bool o]) ∧ Below w.heap.size w w' := by
  have h := c_specParseInt (bs x) w (mlz hx)
  rw [show B (bs x) = x from rfl, hi, ho] at h
  exact h.mono (fun e w' ⟨a, b⟩ => ⟨a, b.below _⟩)
theorem kz_AC (x y : List UInt8) (o : Bool) (hy : P.acT x = y) (ho : P.acOk x = o) (hx : x.length ≤ 4000) (w : World) : Calls Try.prog 51 #[.string (bs x)] w fun e w' => e = .returned (.tuple #[.string (bs y), .bool o]) ∧ Below w.heap.size w w' := by
  have h := c_implAppendChecksum (bs x) w (by rw [bs_size]; omega)
  rw [show B (bs x) = x from rfl, hy, ho] at h; exact h
theorem kz_ACs (x y : List UInt8) (o : Bool) (hy : P.acT x = y) (ho : P.acOk x = o) (hx : x.length ≤ 4000) (w : World) : Calls Try.prog 52 #[.string (bs x)] w fun e w' => e = .returned (.tuple #[.string (bs y), .bool o]) ∧ Below w.heap.size w w' := by
  have h := c_specAppendChecksum (bs x) w (by rw [bs_size]; omega)
  rw [show B (bs x) = x from rfl, hy, ho] at h
  exact h.mono (fun e w' ⟨a, b⟩ => ⟨a, b.below _⟩)
theorem kz_VC (x y : List UInt8) (o : Bool) (hy : P.vcT x = y) (ho : P.vcOk x = o) (hx : x.length ≤ 4000) (w : World) : Calls Try.prog 53 #[.string (bs x)] w fun e w' => e = .returned (.tuple #[.string (bs y), .bool o]) ∧ Below w.heap.size w w' := by
  have h := c_implVerifyChecksum (bs x) w (by rw [bs_size]; omega)
  rw [show B (bs x) = x from rfl, hy, ho] at h; exact h
set_option maxHeartbeats 4000000 in
theorem l_FnStrings (A : Option Addr) (n c : Nat) (l : List UInt8) (w : World) (hl : l.length = n) (hm : n ≤ maxLen) (h : Holds w A (ub l)) : Calls Try.prog 6 #[.slice A n c] w fun e w' => e = .returned (.bool true) ∧ Below w.heap.size w w' := by
  clear hm
  by_cases hn : n ≤ 65536
  · have HL := Lib.hid hl
    have HH := Lib.hid h
    clear hl h
    go_enter Try.func6, Try.ntmps6
    go_wp2_with (go_at_call 15; refine (c_vBig A n c _).mono ?_; rintro e w' ⟨rfl, rfl⟩)
    refine (c_DrawFormatInt A n c l _ HL.out hn HH.out).mono ?_
    rintro e w1 ⟨a, a0, a1, rfl, hb1⟩
    obtain ⟨o, ho⟩ : ∃ o, P.fiOk a = o := ⟨_, rfl⟩
    obtain ⟨s, hs⟩ : ∃ s, P.fiT a = s := ⟨_, rfl⟩
    have HO := Lib.hid ho
    have HS := Lib.hid hs
    go_wp2_with fail
    refine (kz_FI a s o HS.out HO.out _).mono ?_
    rintro e w2 ⟨rfl, hb2⟩
    have hB2 := hb1.trans (hb2.mono hb1.size)
    clear hb1 hb2
    go_wp2_with fail
    refine (kz_FIs a s o HS.out HO.out _).mono ?_
    rintro e w3 ⟨rfl, hb3⟩
    have hB3 := hB2.trans (hb3.mono hB2.size)
    clear hB2 hb3
    go_wp2_with fail
    refine (c_DrawParseInt A n c l _ HL.out hn (holds_belowU HH.out hB3)).mono ?_
    rintro e w4 ⟨t, ht, rfl, hb4⟩
    obtain ⟨ti, hti⟩ : ∃ q, P.piI t = q := ⟨_, rfl⟩
    obtain ⟨to, hto⟩ : ∃ q, P.okP t = q := ⟨_, rfl⟩
    have HTI := Lib.hid hti
    have HTO := Lib.hid hto
    have hB4 := hB3.trans (hb4.mono hB3.size)
    clear hB3 hb4 hti hto
    go_wp2_with fail
    refine (kz_PI t ti to HTI.out HTO.out (by omega) _).mono ?_
    rintro e w' ⟨rfl, rfl⟩
    go_wp2_with fail
    refine (kz_PIs t ti to HTI.out HTO.out (by omega) _).mono ?_
    rintro e w5 ⟨rfl, hb5⟩
    have hB5 := hB4.trans (hb5.mono hB4.size)
    clear hB4 hb5
    go_wp2_with fail
    refine (c_DrawAppendChecksum A n c l _ HL.out hn (holds_belowU HH.out hB5)).mono ?_
    rintro e w6 ⟨x, hx, rfl, hb6⟩
    have hB6 := hB5.trans (hb6.mono hB5.size)
    obtain ⟨xo, hxo⟩ : ∃ q, P.acOk x = q := ⟨_, rfl⟩
    obtain ⟨y, hxt⟩ : ∃ q, P.acT x = q := ⟨_, rfl⟩
    have HXO := Lib.hid hxo
    have HXT := Lib.hid hxt
    clear hB5 hb6
    go_wp2_with fail
    refine (kz_AC x y xo HXT.out HXO.out hx _).mono ?_
    rintro e w7 ⟨rfl, hb7⟩
    have hB7 := hB6.trans (hb7.mono hB6.size)
    clear hB6 hb7
    go_wp2_with fail
    refine (kz_ACs x y xo HXT.out HXO.out hx _).mono ?_
    rintro e w8 ⟨rfl, hb8⟩
    have hB8 := hB7.trans (hb8.mono hB7.size)
    clear hB7 hb8
    cases o with
    | true =>
      obtain ⟨f1, f2, f3⟩ := fi_law ho
      rw [hs] at f1 f2 f3
      have F1 := Lib.hid f1
      have F2 := Lib.hid f2
      clear ho hs f1 f2
      go_wp2_with fail
      refine (kz_PI s a true F2.out F1.out (by omega) _).mono ?_
      rintro e w' ⟨rfl, rfl⟩
      cases xo with
      | false =>
        have hy0 : y = [] := by rw [← hxt]; unfold P.acT; rw [hxo]; rfl
        subst hy0
        clear hxo hxt
        go_wp2
        go_ret
        exact ⟨ret_bool (by first | rfl | (simp; exact nil_list) | exact nil_list), hB8⟩
      | true =>
        skip
        obtain ⟨y0, y4, yv, yt, yb⟩ := ac_law hxo
        rw [hxt] at y0 y4 yv yt
        have YB := Lib.hid (show ∀ k (hk : k < y.length) (d : UInt8), d ≠ y[k] → P.vcOk (y.set k d) = false by
          subst hxt
          exact yb)
        have YV := Lib.hid yv
        have YT := Lib.hid yt
        clear yv yt yb hxo hxt
        go_wp2_with fail
        refine (kz_VC y x true YT.out YV.out y4 _).mono ?_
        rintro e u1 ⟨rfl, hu1⟩
        have hU1 := (hB8).trans (hu1.mono (hB8).size)
        clear hu1
        have hconv := Lib.run_convert_string_bytes (P := Try.prog) u1 9 22 5 (bs y) Try.underlying9 Try.underlying22 Try.underlying5
        have hby := bytesWorld_bys u1 5 (bs y)
        have hbw := bytesWorld_below u1 5 (bs y)
        obtain ⟨W1, hW1⟩ : ∃ W1, Lib.bytesWorld u1 5 (bs y) = W1 := ⟨_, rfl⟩
        obtain ⟨cap, hcap⟩ : ∃ cap, grownCap u1 (bs y).size 0 5 = cap := ⟨_, rfl⟩
        obtain ⟨m, hm⟩ : ∃ m, y.length = m := ⟨_, rfl⟩
        rw [hW1, hcap, bs_size, hm] at hconv
        rw [hW1, B_bs] at hby
        rw [hW1] at hbw
        rw [hm] at y0 y4
        have hUW := hU1.trans (hbw.mono hU1.size)
        have HBY := Lib.hid hby
        have HM := Lib.hid hm
        have HHW := Lib.hid (holds_belowU HH.out hUW)
        have hus := hU1.size
        clear hby hm hW1 hcap hbw hU1
        go_wp2_with fail
        refine (c_vAt A n c 9 l _ HL.out hn (by omega) HHW.out).mono ?_
        rintro e w' ⟨⟨k9, hk9, rfl⟩, rfl⟩
        obtain ⟨k, hk⟩ : ∃ k, k9 % m = k := ⟨_, rfl⟩
        have hkm : k < m := by rw [← hk]; exact Nat.mod_lt _ y0
        have hki : (k9 : Int) % (m : Int) = (k : Int) := by rw [← hk]; exact (Int.natCast_emod k9 m).symm
        clear hconv hk
        go_wp2_with fail
        try rw [hki]
        have hkl : k < y.length := by rw [HM.out]; exact hkm
        obtain ⟨c8, hc8⟩ : ∃ c8, y[k] = c8 := ⟨_, rfl⟩
        obtain ⟨hcell, hfr⟩ := HBY.out k hkl
        rw [hc8] at hcell
        have HKL := Lib.hid hkl
        have HC8 := Lib.hid (show y[k]'HKL.out = c8 from hc8)
        have hk0 : (0 : Int) ≤ (k : Int) := by omega
        have hkm' : (k : Int) < (m : Int) := by omega
        clear hc8 hkl
        go_region_with (go_at_call 54; (refine (c_vAt A n c 10 l _ HL.out hn (by omega) (by exact HHW.out)).mono ?_; rintro e w' ⟨⟨k10, hk10, rfl⟩, rfl⟩))
        all_goals
          obtain ⟨d8, hd1, hd2⟩ := xor_val c8 k10 hk10
          rw [hd2]
          have hb2 := HBY.out.set k d8
          have hcv := run_str_bys (P := Try.prog) 22 9 5 Try.underlying22 Try.underlying5 Try.underlying9 (show Bys ((W1.setCell ⟨u1.heap.size, k, none⟩ (.int .u8 (d8.toNat : Int))).drew) u1.heap.size (y.set k d8) from hb2) 0 m cap (by rw [List.length_set, HM.out]; omega)
          rw [List.drop_zero, List.take_of_length_le (by rw [List.length_set, HM.out]; omega)] at hcv
          have HZ := Lib.hid (YB.out k HKL.out d8 (by rw [HC8.out]; exact hd1))
          have hz4 : (y.set k d8).length ≤ 4000 := by rw [List.length_set, HM.out]; omega
          obtain ⟨z, hz⟩ : ∃ z, y.set k d8 = z := ⟨_, rfl⟩
          rw [hz] at hcv HZ hz4
          obtain ⟨zt, hzt⟩ : ∃ zt, P.vcT z = zt := ⟨_, rfl⟩
          have HZT := Lib.hid hzt
          have hUV : Below w.heap.size w ((W1.setCell ⟨u1.heap.size, k, none⟩ (.int .u8 (d8.toNat : Int))).drew) := (hUW.setCell (p := ⟨u1.heap.size, k, none⟩) hus (.int .u8 (d8.toNat : Int))).drew
          obtain ⟨W2, hW2⟩ : ∃ W2, (W1.setCell ⟨u1.heap.size, k, none⟩ (.int .u8 (d8.toNat : Int))).drew = W2 := ⟨_, rfl⟩
          rw [hW2] at hcv hUV
          rw [hW2]
          clear hb2 hz hzt hcell hfr hd1 hd2 hW2
          go_wp2_with fail
          refine (kz_VC z zt false HZT.out HZ.out hz4 _).mono ?_
          rintro e u2 ⟨rfl, hu2⟩
          go_wp2
          go_ret
          exact ⟨ret_bool (by first | rfl | simp | decide), hUV.trans (hu2.mono hUV.size)⟩
    | false =>
      have hs0 : s = [] := by rw [← hs]; unfold P.fiT; rw [ho]; rfl
      obtain ⟨bi, hbi⟩ : ∃ q, P.piI s = q := ⟨_, rfl⟩
      obtain ⟨bo, hbo⟩ : ∃ q, P.okP s = q := ⟨_, rfl⟩
      have HBI := Lib.hid hbi
      have HBO := Lib.hid hbo
      have hsl : s.length ≤ 4000 := by rw [hs0]; simp
      clear ho hs hs0 hbi hbo
      go_wp2_with fail
      refine (kz_PI s bi bo HBI.out HBO.out hsl _).mono ?_
      rintro e w' ⟨rfl, rfl⟩
      cases xo with
      | false =>
        have hy0 : y = [] := by rw [← hxt]; unfold P.acT; rw [hxo]; rfl
        subst hy0
        clear hxo hxt
        go_wp2
        go_ret
        exact ⟨ret_bool (by first | rfl | (simp; exact nil_list) | exact nil_list), hB8⟩
      | true =>
        skip
        obtain ⟨y0, y4, yv, yt, yb⟩ := ac_law hxo
        rw [hxt] at y0 y4 yv yt
        have YB := Lib.hid (show ∀ k (hk : k < y.length) (d : UInt8), d ≠ y[k] → P.vcOk (y.set k d) = false by
          subst hxt
          exact yb)
        have YV := Lib.hid yv
        have YT := Lib.hid yt
        clear yv yt yb hxo hxt
        go_wp2_with fail
        refine (kz_VC y x true YT.out YV.out y4 _).mono ?_
        rintro e u1 ⟨rfl, hu1⟩
        have hU1 := (hB8).trans (hu1.mono (hB8).size)
        clear hu1
        have hconv := Lib.run_convert_string_bytes (P := Try.prog) u1 9 22 5 (bs y) Try.underlying9 Try.underlying22 Try.underlying5
        have hby := bytesWorld_bys u1 5 (bs y)
        have hbw := bytesWorld_below u1 5 (bs y)
        obtain ⟨W1, hW1⟩ : ∃ W1, Lib.bytesWorld u1 5 (bs y) = W1 := ⟨_, rfl⟩
        obtain ⟨cap, hcap⟩ : ∃ cap, grownCap u1 (bs y).size 0 5 = cap := ⟨_, rfl⟩
        obtain ⟨m, hm⟩ : ∃ m, y.length = m := ⟨_, rfl⟩
        rw [hW1, hcap, bs_size, hm] at hconv
        rw [hW1, B_bs] at hby
        rw [hW1] at hbw
        rw [hm] at y0 y4
        have hUW := hU1.trans (hbw.mono hU1.size)
        have HBY := Lib.hid hby
        have HM := Lib.hid hm
        have HHW := Lib.hid (holds_belowU HH.out hUW)
        have hus := hU1.size
        clear hby hm hW1 hcap hbw hU1
        go_wp2_with fail
        refine (c_vAt A n c 9 l _ HL.out hn (by omega) HHW.out).mono ?_
        rintro e w' ⟨⟨k9, hk9, rfl⟩, rfl⟩
        obtain ⟨k, hk⟩ : ∃ k, k9 % m = k := ⟨_, rfl⟩
        have hkm : k < m := by rw [← hk]; exact Nat.mod_lt _ y0
        have hki : (k9 : Int) % (m : Int) = (k : Int) := by rw [← hk]; exact (Int.natCast_emod k9 m).symm
        clear hconv hk
        go_wp2_with fail
        try rw [hki]
        have hkl : k < y.length := by rw [HM.out]; exact hkm
        obtain ⟨c8, hc8⟩ : ∃ c8, y[k] = c8 := ⟨_, rfl⟩
        obtain ⟨hcell, hfr⟩ := HBY.out k hkl
        rw [hc8] at hcell
        have HKL := Lib.hid hkl
        have HC8 := Lib.hid (show y[k]'HKL.out = c8 from hc8)
        have hk0 : (0 : Int) ≤ (k : Int) := by omega
        have hkm' : (k : Int) < (m : Int) := by omega
        clear hc8 hkl
        go_region_with (go_at_call 54; (refine (c_vAt A n c 10 l _ HL.out hn (by omega) (by exact HHW.out)).mono ?_; rintro e w' ⟨⟨k10, hk10, rfl⟩, rfl⟩))
        all_goals
          obtain ⟨d8, hd1, hd2⟩ := xor_val c8 k10 hk10
          rw [hd2]
          have hb2 := HBY.out.set k d8
          have hcv := run_str_bys (P := Try.prog) 22 9 5 Try.underlying22 Try.underlying5 Try.underlying9 (show Bys ((W1.setCell ⟨u1.heap.size, k, none⟩ (.int .u8 (d8.toNat : Int))).drew) u1.heap.size (y.set k d8) from hb2) 0 m cap (by rw [List.length_set, HM.out]; omega)
          rw [List.drop_zero, List.take_of_length_le (by rw [List.length_set, HM.out]; omega)] at hcv
          have HZ := Lib.hid (YB.out k HKL.out d8 (by rw [HC8.out]; exact hd1))
          have hz4 : (y.set k d8).length ≤ 4000 := by rw [List.length_set, HM.out]; omega
          obtain ⟨z, hz⟩ : ∃ z, y.set k d8 = z := ⟨_, rfl⟩
          rw [hz] at hcv HZ hz4
          obtain ⟨zt, hzt⟩ : ∃ zt, P.vcT z = zt := ⟨_, rfl⟩
          have HZT := Lib.hid hzt
          have hUV : Below w.heap.size w ((W1.setCell ⟨u1.heap.size, k, none⟩ (.int .u8 (d8.toNat : Int))).drew) := (hUW.setCell (p := ⟨u1.heap.size, k, none⟩) hus (.int .u8 (d8.toNat : Int))).drew
          obtain ⟨W2, hW2⟩ : ∃ W2, (W1.setCell ⟨u1.heap.size, k, none⟩ (.int .u8 (d8.toNat : Int))).drew = W2 := ⟨_, rfl⟩
          rw [hW2] at hcv hUV
          rw [hW2]
          clear hb2 hz hzt hcell hfr hd1 hd2 hW2
          go_wp2_with fail
          refine (kz_VC z zt false HZT.out HZ.out hz4 _).mono ?_
          rintro e u2 ⟨rfl, hu2⟩
          go_wp2
          go_ret
          exact ⟨ret_bool (by first | rfl | simp | decide), hUV.trans (hu2.mono hUV.size)⟩
  · go_enter Try.func6, Try.ntmps6
    go_wp2_with (go_at_call 15; refine (c_vBig A n c _).mono ?_; rintro e w' ⟨rfl, rfl⟩)
    go_ret
    exact ⟨rfl, Below.refl _ _⟩
end Go.Proofs.Ytfbanjmooknafaa
