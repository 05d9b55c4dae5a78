/-
  The walk of the law on nearest names.
-/
import Derived.Test.YtfbanjmooknafaaLV
import Derived.Test.YtfbanjmooknafaaDN
import Derived.Test.YtfbanjmooknafaaT
namespace Go.Proofs.Ytfbanjmooknafaa
open Go.RowKit Go.ChangeShapes Go.WideShapes Go.ChangeAt Go.Joins Go.Deep
set_option linter.unusedSimpArgs false
set_option linter.unusedVariables false
set_option maxRecDepth 100000

theorem ml3 {x : List UInt8} (h : x.length ≤ 1000) : (bs x).size ≤ maxLen := by rw [bs_size]; unfold maxLen; omega
theorem c_rBig (A : Option Addr) (n c : Nat) (w : World) : Calls Try.prog 86 #[.slice A n c] w fun e w' => e = .returned (.bool (decide ((65536 : Int) < n))) ∧ w = w' := by
  go_enter Try.func86, Try.ntmps86
  go_wp2
  go_ret
  exact ⟨rfl, rfl⟩
theorem k_NN (A : Option Addr) (c : Nat) (k : List (List UInt8)) (y : List UInt8) (i d : Int) (o : Bool) (hi : P.nnI k y = i) (hd : P.nnD k y = d) (ho : P.nnOk k y = o) (hk : k.length ≤ 1000) (hx : ∀ x ∈ k, x.length ≤ 10) (hy : y.length ≤ 1000) (w : World) (h : Holds w A (k.map vs)) : Calls Try.prog 105 #[.slice A k.length c, .string (bs y)] w fun e w' => e = .returned (.tuple #[.int .i64 i, .int .i64 d, .bool o]) ∧ Below w.heap.size w w' := by
  have h := c_implNearestName A k.length c k (bs y) w rfl (by unfold maxLen; omega) h (fun x hm => by have := hx x hm; unfold maxLen; omega) (ml3 hy)
  rw [show B (bs y) = y from rfl, hi, hd, ho] at h
  exact h
theorem k_NNs (A : Option Addr) (c : Nat) (k : List (List UInt8)) (y : List UInt8) (i d : Int) (o : Bool) (hi : P.nnI k y = i) (hd : P.nnD k y = d) (ho : P.nnOk k y = o) (hk : k.length ≤ 1000) (hx : ∀ x ∈ k, x.length ≤ 10) (hy : y.length ≤ 1000) (w : World) (h : Holds w A (k.map vs)) : Calls Try.prog 106 #[.slice A k.length c, .string (bs y)] w fun e w' => e = .returned (.tuple #[.int .i64 i, .int .i64 d, .bool o]) ∧ Below w.heap.size w w' := by
  have h := c_specNearestName A k.length c k (bs y) w rfl (by unfold maxLen; omega) h (fun x hm => by have := hx x hm; unfold maxLen; omega) (ml3 hy)
  rw [show B (bs y) = y from rfl, hi, hd, ho] at h
  exact h
theorem k_NB (x y : List UInt8) (o : Bool) (hy : nbS x = y) (ho : P.nameB x = o) (hx : x.length ≤ 1000) (w : World) : Calls Try.prog 88 #[.string (bs x)] w fun e w' => e = .returned (.tuple #[.string (bs y), .bool o]) ∧ Below w.heap.size w w' := by
  have h := c_implNameBits (bs x) w (ml3 hx)
  rw [show B (bs x) = x from rfl, hy, ho] at h
  exact h
theorem k_SF (x y : List UInt8) (i : Int) (o : Bool) (hy : P.sfS x = y) (hi : P.sfI x = i) (ho : P.sfOk x = o) (hx : x.length ≤ 1000) (w : World) : Calls Try.prog 108 #[.string (bs x)] w fun e w' => e = .returned (.tuple #[.string (bs y), .int .i64 i, .bool o]) ∧ w = w' := by
  have h := c_implSplitFlightName (bs x) w (ml3 hx)
  rw [show B (bs x) = x from rfl, hy, hi, ho] at h
  exact h
theorem k_SFs (x y : List UInt8) (i : Int) (o : Bool) (hy : P.sfS x = y) (hi : P.sfI x = i) (ho : P.sfOk x = o) (hx : x.length ≤ 1000) (w : World) : Calls Try.prog 109 #[.string (bs x)] w fun e w' => e = .returned (.tuple #[.string (bs y), .int .i64 i, .bool o]) ∧ Below w.heap.size w w' := by
  have h := c_specSplitFlightName (bs x) w (ml3 hx)
  rw [show B (bs x) = x from rfl, hy, hi, ho] at h
  exact h.mono (fun e w' ⟨a, b⟩ => ⟨a, b.below _⟩)
theorem k_NPt (x : List UInt8) (p i : Int) (o : Bool) (hi : npI x p = i) (ho : npOk x p = o) (hx : x.length ≤ 1000) (w : World) : Calls Try.prog 92 #[.string (bs x), .int .i64 p] w fun e w' => e = .returned (.tuple #[.int .i64 i, .bool o]) ∧ Below w.heap.size w w' := by
  have h := c_implNamePart (bs x) p w (ml3 hx)
  rw [show B (bs x) = x from rfl, hi, ho] at h
  exact h
theorem k_NPts (x : List UInt8) (p i : Int) (o : Bool) (hi : npI x p = i) (ho : npOk x p = o) (hx : x.length ≤ 1000) (w : World) : Calls Try.prog 111 #[.string (bs x), .int .i64 p] w fun e w' => e = .returned (.tuple #[.int .i64 i, .bool o]) ∧ Below w.heap.size w w' := by
  have h := c_specNamePart (bs x) p w (ml3 hx)
  rw [show B (bs x) = x from rfl, hi, ho] at h
  exact h
theorem k_FI (n : Int) (t : List UInt8) (o : Bool) (ht : P.fiT n = t) (ho : P.fiOk n = o) (w : World) : Calls Try.prog 45 #[.int .i64 n] w fun e w' => e = .returned (.tuple #[.string (bs t), .bool o]) ∧ Below w.heap.size w w' := by
  have h := c_implFormatInt n w
  rw [ht, ho] at h
  exact h
set_option maxHeartbeats 4000000 in
theorem l_FnNearestNames (A : Option Addr) (n c : Nat) (l : List UInt8) (w : World) (hl : l.length = n) (hm : n ≤ maxLen) (h : Holds w A (ub l)) : Calls Try.prog 11 #[.slice A n c] w fun e w' => e = .returned (.bool true) ∧ Below w.heap.size w w' := by
  clear hm
  by_cases hn : n ≤ 65536
  · have HL := Lib.hid hl
    have HH := Lib.hid h
    clear hl h
    go_enter Try.func11, Try.ntmps11
    go_wp2_with (go_at_call 86; refine (c_rBig A n c _).mono ?_; rintro e w' ⟨rfl, rfl⟩)
    refine (c_DrawNearestName A n c l _ HL.out hn HH.out).mono ?_
    rintro e w1 ⟨A1, c1, k, y, hk, hkx, hy, rfl, hh1, hb1⟩
    have HKX := Lib.hid hkx
    have HK1 := Lib.hid hh1
    obtain ⟨o, ho⟩ : ∃ q, P.nnOk k y = q := ⟨_, rfl⟩
    have HO := Lib.hid ho
    cases o with
    | false =>
      obtain ⟨i, hi⟩ : ∃ q, P.nnI k y = q := ⟨_, rfl⟩
      obtain ⟨d, hd⟩ : ∃ q, P.nnD k y = q := ⟨_, rfl⟩
      have HI := Lib.hid hi
      have HD := Lib.hid hd
      clear ho hi hd hkx hh1
      go_wp2_with fail
      refine (k_NN A1 c1 k y i d false HI.out HD.out HO.out (by omega) HKX.out (by omega) _ HK1.out).mono ?_
      rintro e w2 ⟨rfl, hb2⟩
      have HK2 := Lib.hid (holds_belowU HK1.out hb2)
      have hB2 := hb1.trans (hb2.mono hb1.size)
      clear hb1 hb2
      go_wp2_with fail
      refine (k_NNs A1 c1 k y i d false HI.out HD.out HO.out (by omega) HKX.out (by omega) _ HK2.out).mono ?_
      rintro e w3 ⟨rfl, hb3⟩
      have hB3 := hB2.trans (hb3.mono hB2.size)
      clear hB2 hb3 HK2 HK1
      go_wp2_with fail
      refine (c_DrawSplitFlightName A n c l _ HL.out hn (holds_belowU HH.out hB3)).mono ?_
      rintro e u1 ⟨s, hs, rfl, hu1⟩
      have hU1 := (hB3).trans (hu1.mono (hB3).size)
      clear hu1
      obtain ⟨so, hso⟩ : ∃ q, P.sfOk s = q := ⟨_, rfl⟩
      obtain ⟨sl, hsl⟩ : ∃ q, P.sfS s = q := ⟨_, rfl⟩
      obtain ⟨si, hsi⟩ : ∃ q, P.sfI s = q := ⟨_, rfl⟩
      have HSO := Lib.hid hso
      have HSL := Lib.hid hsl
      have HSI := Lib.hid hsi
      cases so with
      | false =>
        clear hso hsl hsi
        go_wp2_with fail
        refine (k_SF s sl si false HSL.out HSI.out HSO.out (by omega) _).mono ?_
        rintro e w' ⟨rfl, rfl⟩
        go_wp2_with fail
        refine (k_SFs s sl si false HSL.out HSI.out HSO.out (by omega) _).mono ?_
        rintro e u2 ⟨rfl, hu2⟩
        have hU2 := hU1.trans (hu2.mono hU1.size)
        clear hu2 hU1
        go_wp2_with fail
        refine (c_DrawNamePart A n c l _ HL.out hn (holds_belowU HH.out hU2)).mono ?_
        rintro e v1 ⟨t, p, ht, hp0, hp1, rfl, hv1⟩
        obtain ⟨pi, hpi⟩ : ∃ q, npI t p = q := ⟨_, rfl⟩
        obtain ⟨po, hpo⟩ : ∃ q, npOk t p = q := ⟨_, rfl⟩
        have HPI := Lib.hid hpi
        have HPO := Lib.hid hpo
        have hV1 := (hU2).trans (hv1.mono (hU2).size)
        clear hpi hpo hv1
        go_wp2_with fail
        refine (k_NPt t p pi po HPI.out HPO.out (by omega) _).mono ?_
        rintro e v2 ⟨rfl, hv2⟩
        have hV2 := hV1.trans (hv2.mono hV1.size)
        clear hv2 hV1
        go_wp2_with fail
        refine (k_NPts t p pi po HPI.out HPO.out (by omega) _).mono ?_
        rintro e v3 ⟨rfl, hv3⟩
        have hV3 := hV2.trans (hv3.mono hV2.size)
        clear hv3 hV2
        go_wp2
        go_ret
        exact ⟨ret_bool (by first | rfl | simp | decide), hV3⟩
      | true =>
        obtain ⟨x, hf1, hf2, hf3⟩ := sf1 hso
        rw [hsi] at hf1 hf2
        rw [hsl] at hf3
        have HF1 := Lib.hid hf1
        have HF2 := Lib.hid hf2
        have hadd : ∀ W, (Op.stringOp .add (bs sl) (bs x)).run Try.prog W = .ok (.string (bs s)) W := fun W => by
          have := run_add (P := Try.prog) W sl x (by have := congrArg List.length hf3; rw [List.length_append] at this; omega)
          rw [hf3] at this; exact this
        clear hso hsl hsi hf1 hf2 hf3
        go_wp2_with fail
        refine (k_SF s sl si true HSL.out HSI.out HSO.out (by omega) _).mono ?_
        rintro e w' ⟨rfl, rfl⟩
        go_wp2_with fail
        refine (k_SFs s sl si true HSL.out HSI.out HSO.out (by omega) _).mono ?_
        rintro e u2 ⟨rfl, hu2⟩
        have hU2 := hU1.trans (hu2.mono hU1.size)
        clear hu2 hU1
        go_wp2_with fail
        refine (k_FI si x true HF2.out HF1.out _).mono ?_
        rintro e u3 ⟨rfl, hu3⟩
        have hU3 := hU2.trans (hu3.mono hU2.size)
        clear hu3 hU2
        go_wp2_with fail
        refine (c_DrawNamePart A n c l _ HL.out hn (holds_belowU HH.out hU3)).mono ?_
        rintro e v1 ⟨t, p, ht, hp0, hp1, rfl, hv1⟩
        obtain ⟨pi, hpi⟩ : ∃ q, npI t p = q := ⟨_, rfl⟩
        obtain ⟨po, hpo⟩ : ∃ q, npOk t p = q := ⟨_, rfl⟩
        have HPI := Lib.hid hpi
        have HPO := Lib.hid hpo
        have hV1 := (hU3).trans (hv1.mono (hU3).size)
        clear hpi hpo hv1
        go_wp2_with fail
        refine (k_NPt t p pi po HPI.out HPO.out (by omega) _).mono ?_
        rintro e v2 ⟨rfl, hv2⟩
        have hV2 := hV1.trans (hv2.mono hV1.size)
        clear hv2 hV1
        go_wp2_with fail
        refine (k_NPts t p pi po HPI.out HPO.out (by omega) _).mono ?_
        rintro e v3 ⟨rfl, hv3⟩
        have hV3 := hV2.trans (hv3.mono hV2.size)
        clear hv3 hV2
        go_wp2
        go_ret
        exact ⟨ret_bool (by first | rfl | simp | decide), hV3⟩
    | true =>
      obtain ⟨i, d, e1, e2, hlt, hd48, hi, hnm, hz, r1, r2, r3⟩ := P.nn_own ho
      obtain ⟨x, hx⟩ : ∃ x, k[i] = x := ⟨_, rfl⟩
      rw [hx] at hnm hz r1 r2 r3
      have hxl : x.length ≤ 10 := hkx x (by rw [← hx]; exact List.getElem_mem _)
      obtain ⟨own, hown⟩ : ∃ z, P.nbL x = z := ⟨_, rfl⟩
      have hol : own.length = 48 := by rw [← hown]; exact P.nbL_len x
      rw [hown] at hz r1 r2 r3
      have HI := Lib.hid e1
      have HD := Lib.hid e2
      have HN := Lib.hid hnm
      have HB := Lib.hid (show nbS x = own by unfold nbS; rw [if_pos hnm, hown])
      have R1 := Lib.hid r1
      have R2 := Lib.hid r2
      have R3 := Lib.hid r3
      have HZ := Lib.hid hz
      have HX := Lib.hid (show (k.map vs)[i]? = some (.string (bs x)) by rw [List.getElem?_map, List.getElem?_eq_getElem hlt, hx]; rfl)
      clear ho e1 e2 hnm hz r1 r2 r3 hown hkx hh1 hx
      go_wp2_with fail
      refine (k_NN A1 c1 k y i d true HI.out HD.out HO.out (by omega) HKX.out (by omega) _ HK1.out).mono ?_
      rintro e w2 ⟨rfl, hb2⟩
      have HK2 := Lib.hid (holds_belowU HK1.out hb2)
      have hB2 := hb1.trans (hb2.mono hb1.size)
      clear hb1 hb2
      go_wp2_with fail
      refine (k_NNs A1 c1 k y i d true HI.out HD.out HO.out (by omega) HKX.out (by omega) _ HK2.out).mono ?_
      rintro e w3 ⟨rfl, hb3⟩
      have HK3 := Lib.hid (holds_belowU HK2.out hb3)
      have hB3 := hB2.trans (hb3.mono hB2.size)
      clear hB2 hb3 HK2 HK1
      obtain ⟨b5, o5, hA5, hcell⟩ := HK3.out (fun e => by have h9 : (k.map vs).length = 0 := (by rw [e]; rfl); rw [List.length_map] at h9; omega)
      subst hA5
      have hc5 := hcell i _ HX.out
      clear hcell
      go_wp2_with fail
      refine (k_NB x own true HB.out HN.out (by omega) _).mono ?_
      rintro e w4 ⟨rfl, hb4⟩
      have HK4 := Lib.hid (holds_belowU HK3.out hb4)
      have hB4 := hB3.trans (hb4.mono hB3.size)
      clear hB3 hb4 HK3 hc5
      go_wp2_with fail
      refine (k_NN (some ⟨b5, o5, none⟩) c1 k own i 0 true R2.out R3.out R1.out (by omega) HKX.out (by omega) _ HK4.out).mono ?_
      rintro e w5 ⟨rfl, hb5⟩
      have hB5 := hB4.trans (hb5.mono hB4.size)
      clear hB4 hb5 HK4
      by_cases hd0 : d = 0
      · have he : own = y := HZ.out.1 hd0
        subst hd0
        subst he
        go_wp2_with fail
        refine (c_DrawSplitFlightName A n c l _ HL.out hn (holds_belowU HH.out hB5)).mono ?_
        rintro e u1 ⟨s, hs, rfl, hu1⟩
        have hU1 := (hB5).trans (hu1.mono (hB5).size)
        clear hu1
        obtain ⟨so, hso⟩ : ∃ q, P.sfOk s = q := ⟨_, rfl⟩
        obtain ⟨sl, hsl⟩ : ∃ q, P.sfS s = q := ⟨_, rfl⟩
        obtain ⟨si, hsi⟩ : ∃ q, P.sfI s = q := ⟨_, rfl⟩
        have HSO := Lib.hid hso
        have HSL := Lib.hid hsl
        have HSI := Lib.hid hsi
        cases so with
        | false =>
          clear hso hsl hsi
          go_wp2_with fail
          refine (k_SF s sl si false HSL.out HSI.out HSO.out (by omega) _).mono ?_
          rintro e w' ⟨rfl, rfl⟩
          go_wp2_with fail
          refine (k_SFs s sl si false HSL.out HSI.out HSO.out (by omega) _).mono ?_
          rintro e u2 ⟨rfl, hu2⟩
          have hU2 := hU1.trans (hu2.mono hU1.size)
          clear hu2 hU1
          go_wp2_with fail
          refine (c_DrawNamePart A n c l _ HL.out hn (holds_belowU HH.out hU2)).mono ?_
          rintro e v1 ⟨t, p, ht, hp0, hp1, rfl, hv1⟩
          obtain ⟨pi, hpi⟩ : ∃ q, npI t p = q := ⟨_, rfl⟩
          obtain ⟨po, hpo⟩ : ∃ q, npOk t p = q := ⟨_, rfl⟩
          have HPI := Lib.hid hpi
          have HPO := Lib.hid hpo
          have hV1 := (hU2).trans (hv1.mono (hU2).size)
          clear hpi hpo hv1
          go_wp2_with fail
          refine (k_NPt t p pi po HPI.out HPO.out (by omega) _).mono ?_
          rintro e v2 ⟨rfl, hv2⟩
          have hV2 := hV1.trans (hv2.mono hV1.size)
          clear hv2 hV1
          go_wp2_with fail
          refine (k_NPts t p pi po HPI.out HPO.out (by omega) _).mono ?_
          rintro e v3 ⟨rfl, hv3⟩
          have hV3 := hV2.trans (hv3.mono hV2.size)
          clear hv3 hV2
          go_wp2
          go_ret
          exact ⟨ret_bool (by first | rfl | simp | decide), hV3⟩
        | true =>
          obtain ⟨x, hf1, hf2, hf3⟩ := sf1 hso
          rw [hsi] at hf1 hf2
          rw [hsl] at hf3
          have HF1 := Lib.hid hf1
          have HF2 := Lib.hid hf2
          have hadd : ∀ W, (Op.stringOp .add (bs sl) (bs x)).run Try.prog W = .ok (.string (bs s)) W := fun W => by
            have := run_add (P := Try.prog) W sl x (by have := congrArg List.length hf3; rw [List.length_append] at this; omega)
            rw [hf3] at this; exact this
          clear hso hsl hsi hf1 hf2 hf3
          go_wp2_with fail
          refine (k_SF s sl si true HSL.out HSI.out HSO.out (by omega) _).mono ?_
          rintro e w' ⟨rfl, rfl⟩
          go_wp2_with fail
          refine (k_SFs s sl si true HSL.out HSI.out HSO.out (by omega) _).mono ?_
          rintro e u2 ⟨rfl, hu2⟩
          have hU2 := hU1.trans (hu2.mono hU1.size)
          clear hu2 hU1
          go_wp2_with fail
          refine (k_FI si x true HF2.out HF1.out _).mono ?_
          rintro e u3 ⟨rfl, hu3⟩
          have hU3 := hU2.trans (hu3.mono hU2.size)
          clear hu3 hU2
          go_wp2_with fail
          refine (c_DrawNamePart A n c l _ HL.out hn (holds_belowU HH.out hU3)).mono ?_
          rintro e v1 ⟨t, p, ht, hp0, hp1, rfl, hv1⟩
          obtain ⟨pi, hpi⟩ : ∃ q, npI t p = q := ⟨_, rfl⟩
          obtain ⟨po, hpo⟩ : ∃ q, npOk t p = q := ⟨_, rfl⟩
          have HPI := Lib.hid hpi
          have HPO := Lib.hid hpo
          have hV1 := (hU3).trans (hv1.mono (hU3).size)
          clear hpi hpo hv1
          go_wp2_with fail
          refine (k_NPt t p pi po HPI.out HPO.out (by omega) _).mono ?_
          rintro e v2 ⟨rfl, hv2⟩
          have hV2 := hV1.trans (hv2.mono hV1.size)
          clear hv2 hV1
          go_wp2_with fail
          refine (k_NPts t p pi po HPI.out HPO.out (by omega) _).mono ?_
          rintro e v3 ⟨rfl, hv3⟩
          have hV3 := hV2.trans (hv3.mono hV2.size)
          clear hv3 hV2
          go_wp2
          go_ret
          exact ⟨ret_bool (by first | rfl | simp | decide), hV3⟩
      · have he : ¬ own = y := fun e => hd0 (HZ.out.2 e)
        have hd1 : ((d : Int) == 0) = false := by rw [beq_eq_false_iff_ne]; omega
        have he1 : ((bs own).toList == (bs y).toList) = false := cmp_ne he
        go_wp2_with fail
        refine (c_DrawSplitFlightName A n c l _ HL.out hn (holds_belowU HH.out hB5)).mono ?_
        rintro e u1 ⟨s, hs, rfl, hu1⟩
        have hU1 := (hB5).trans (hu1.mono (hB5).size)
        clear hu1
        obtain ⟨so, hso⟩ : ∃ q, P.sfOk s = q := ⟨_, rfl⟩
        obtain ⟨sl, hsl⟩ : ∃ q, P.sfS s = q := ⟨_, rfl⟩
        obtain ⟨si, hsi⟩ : ∃ q, P.sfI s = q := ⟨_, rfl⟩
        have HSO := Lib.hid hso
        have HSL := Lib.hid hsl
        have HSI := Lib.hid hsi
        cases so with
        | false =>
          clear hso hsl hsi
          go_wp2_with fail
          refine (k_SF s sl si false HSL.out HSI.out HSO.out (by omega) _).mono ?_
          rintro e w' ⟨rfl, rfl⟩
          go_wp2_with fail
          refine (k_SFs s sl si false HSL.out HSI.out HSO.out (by omega) _).mono ?_
          rintro e u2 ⟨rfl, hu2⟩
          have hU2 := hU1.trans (hu2.mono hU1.size)
          clear hu2 hU1
          go_wp2_with fail
          refine (c_DrawNamePart A n c l _ HL.out hn (holds_belowU HH.out hU2)).mono ?_
          rintro e v1 ⟨t, p, ht, hp0, hp1, rfl, hv1⟩
          obtain ⟨pi, hpi⟩ : ∃ q, npI t p = q := ⟨_, rfl⟩
          obtain ⟨po, hpo⟩ : ∃ q, npOk t p = q := ⟨_, rfl⟩
          have HPI := Lib.hid hpi
          have HPO := Lib.hid hpo
          have hV1 := (hU2).trans (hv1.mono (hU2).size)
          clear hpi hpo hv1
          go_wp2_with fail
          refine (k_NPt t p pi po HPI.out HPO.out (by omega) _).mono ?_
          rintro e v2 ⟨rfl, hv2⟩
          have hV2 := hV1.trans (hv2.mono hV1.size)
          clear hv2 hV1
          go_wp2_with fail
          refine (k_NPts t p pi po HPI.out HPO.out (by omega) _).mono ?_
          rintro e v3 ⟨rfl, hv3⟩
          have hV3 := hV2.trans (hv3.mono hV2.size)
          clear hv3 hV2
          go_wp2
          go_ret
          exact ⟨ret_bool (by first | rfl | simp | decide), hV3⟩
        | true =>
          obtain ⟨x, hf1, hf2, hf3⟩ := sf1 hso
          rw [hsi] at hf1 hf2
          rw [hsl] at hf3
          have HF1 := Lib.hid hf1
          have HF2 := Lib.hid hf2
          have hadd : ∀ W, (Op.stringOp .add (bs sl) (bs x)).run Try.prog W = .ok (.string (bs s)) W := fun W => by
            have := run_add (P := Try.prog) W sl x (by have := congrArg List.length hf3; rw [List.length_append] at this; omega)
            rw [hf3] at this; exact this
          clear hso hsl hsi hf1 hf2 hf3
          go_wp2_with fail
          refine (k_SF s sl si true HSL.out HSI.out HSO.out (by omega) _).mono ?_
          rintro e w' ⟨rfl, rfl⟩
          go_wp2_with fail
          refine (k_SFs s sl si true HSL.out HSI.out HSO.out (by omega) _).mono ?_
          rintro e u2 ⟨rfl, hu2⟩
          have hU2 := hU1.trans (hu2.mono hU1.size)
          clear hu2 hU1
          go_wp2_with fail
          refine (k_FI si x true HF2.out HF1.out _).mono ?_
          rintro e u3 ⟨rfl, hu3⟩
          have hU3 := hU2.trans (hu3.mono hU2.size)
          clear hu3 hU2
          go_wp2_with fail
          refine (c_DrawNamePart A n c l _ HL.out hn (holds_belowU HH.out hU3)).mono ?_
          rintro e v1 ⟨t, p, ht, hp0, hp1, rfl, hv1⟩
          obtain ⟨pi, hpi⟩ : ∃ q, npI t p = q := ⟨_, rfl⟩
          obtain ⟨po, hpo⟩ : ∃ q, npOk t p = q := ⟨_, rfl⟩
          have HPI := Lib.hid hpi
          have HPO := Lib.hid hpo
          have hV1 := (hU3).trans (hv1.mono (hU3).size)
          clear hpi hpo hv1
          go_wp2_with fail
          refine (k_NPt t p pi po HPI.out HPO.out (by omega) _).mono ?_
          rintro e v2 ⟨rfl, hv2⟩
          have hV2 := hV1.trans (hv2.mono hV1.size)
          clear hv2 hV1
          go_wp2_with fail
          refine (k_NPts t p pi po HPI.out HPO.out (by omega) _).mono ?_
          rintro e v3 ⟨rfl, hv3⟩
          have hV3 := hV2.trans (hv3.mono hV2.size)
          clear hv3 hV2
          go_wp2
          go_ret
          exact ⟨ret_bool (by first | rfl | simp | decide), hV3⟩
  · go_enter Try.func11, Try.ntmps11
    go_wp2_with (go_at_call 86; refine (c_rBig A n c _).mono ?_; rintro e w' ⟨rfl, rfl⟩)
    go_ret
    exact ⟨rfl, Below.refl _ _⟩
end Go.Proofs.Ytfbanjmooknafaa
