/-
  The walk of the law on parities.
-/
import Derived.Test.YtfbanjmooknafaaLP
namespace Go.Proofs.Ytfbanjmooknafaa
open Go.RowKit Go.ChangeShapes Go.WideShapes Go.ChangeAt Go.Joins Go.Deep
set_option linter.unusedSimpArgs false
set_option linter.unusedVariables false
set_option maxRecDepth 100000

set_option maxHeartbeats 4000000 in
theorem l_FnParity (A : Option Addr) (n c : Nat) (l : List UInt8) (w : World) (hl : l.length = n) (hm : n ≤ maxLen) (h : Holds w A (ub l)) : Calls Try.prog 8 #[.slice A n c] w fun e w' => e = .returned (.bool true) ∧ Below w.heap.size w w' := by
  clear hm
  by_cases hn : n ≤ 65536
  · have HL := Lib.hid hl
    have HH := Lib.hid h
    clear hl h
    go_enter Try.func8, Try.ntmps8
    go_wp2_with (go_at_call 15; refine (c_vBig A n c _).mono ?_; rintro e w' ⟨rfl, rfl⟩)
    refine (c_DrawAddParity A n c l _ HL.out hn HH.out).mono ?_
    rintro e w1 ⟨s, hs, rfl, hb1⟩
    obtain ⟨t, ht⟩ : ∃ t, apS s = t := ⟨_, rfl⟩
    obtain ⟨o, ho⟩ : ∃ o, paOk s = o := ⟨_, rfl⟩
    have htl := ap_len s
    rw [ht] at htl
    have HT := Lib.hid ht
    have HO := Lib.hid ho
    clear ht ho
    go_wp2_with fail
    refine (k_AP s t o HT.out HO.out (by omega) _).mono ?_
    rintro e w2 ⟨rfl, hb2⟩
    go_wp2_with fail
    refine (k_APs s t o HT.out HO.out (by omega) _).mono ?_
    rintro e w3 ⟨rfl, hb3⟩
    have hB3 := hb1.trans ((hb2.trans (hb3.mono hb2.size)).mono hb1.size)
    clear hb1 hb2 hb3
    cases o with
    | false =>
      go_wp2_with fail
      refine (c_DrawRepairBit A n c l _ HL.out hn (holds_belowU HH.out hB3)).mono ?_
      rintro e v1 ⟨x, hx, rfl, hv1⟩
      obtain ⟨X, hX⟩ : ∃ X, rbS x = X := ⟨_, rfl⟩
      obtain ⟨q, hq⟩ : ∃ q, rbI x = q := ⟨_, rfl⟩
      obtain ⟨p, hp⟩ : ∃ p, rbOk x = p := ⟨_, rfl⟩
      have HX := Lib.hid hX
      have HQ := Lib.hid hq
      have HP := Lib.hid hp
      clear hX hq hp
      go_wp2_with fail
      refine (k_RB x X q p HX.out HQ.out HP.out (by omega) _).mono ?_
      rintro e v2 ⟨rfl, hv2⟩
      go_wp2_with fail
      refine (k_RBs x X q p HX.out HQ.out HP.out (by omega) _).mono ?_
      rintro e v3 ⟨rfl, hv3⟩
      have hV3 := (hB3).trans ((hv1.trans ((hv2.trans (hv3.mono hv2.size)).mono hv1.size)).mono (hB3).size)
      clear hv1 hv2 hv3
      go_wp2
      go_ret
      exact ⟨ret_bool (by simp), hV3⟩
    | true =>
      obtain ⟨r1, r2, r3, r4, r5⟩ := par1 HO.out
      rw [HT.out] at r1 r2 r3 r4 r5
      have R1 := Lib.hid r1
      have R2 := Lib.hid r2
      have R3 := Lib.hid r3
      have R5 := Lib.hid r5
      have hts := bs_size t
      clear r1 r2 r3 r5
      go_wp2_with fail
      refine (k_IS t true true R1.out R2.out (by omega) _).mono ?_
      rintro e w4 ⟨rfl, hb4⟩
      go_wp2_with fail
      refine (k_ST t s true R3.out R1.out (by omega) _).mono ?_
      rintro e w5 ⟨rfl, hb5⟩
      have hB5 := hB3.trans ((hb4.trans (hb5.mono hb4.size)).mono hB3.size)
      clear hb4 hb5 hB3
      go_wp2
      go_loopw [12] (fun i wr => ∃ k : Nat, i = .int .i64 k ∧ k ≤ 70 ∧ Below w.heap.size w wr) (fun i _ => 70 - (intOf i).toNat)
      case atStart => exact ⟨0, rfl, by omega, hB5⟩
      case round =>
        clear hB5
        obtain ⟨k, rfl, hk, hbr⟩ := hrel
        by_cases hlt : k < t.length
        · obtain ⟨f1, f2⟩ := fb_nat r4 R5.out hlt
          obtain ⟨g1, g2, g3, g4, g5⟩ := rep_flip R1.out hlt
          obtain ⟨u, hu⟩ : ∃ u, P.flipL t k = u := ⟨_, rfl⟩
          have hul := P.flipL_len t k
          rw [hu] at f2 g1 g2 g3 g4 g5 hul
          have F1 := Lib.hid f1
          have F2 := Lib.hid f2
          have G1 := Lib.hid g1
          have G2 := Lib.hid g2
          have G3 := Lib.hid g3
          have G4 := Lib.hid g4
          have G5 := Lib.hid g5
          clear f1 f2 g1 g2 g3 g4 g5 hu
          go_wp2_with fail
          refine (k_FB t k u true F2.out F1.out (by omega) _).mono ?_
          rintro e v1 ⟨rfl, hv1⟩
          go_wp2_with fail
          refine (k_RB u t k true G2.out G3.out G1.out (by omega) _).mono ?_
          rintro e v2 ⟨rfl, hv2⟩
          go_wp2_with fail
          refine (k_IS u false true G5.out G4.out (by omega) _).mono ?_
          rintro e v3 ⟨rfl, hv3⟩
          have hV3 := hbr.trans ((hv1.trans ((hv2.trans (hv3.mono hv2.size)).mono hv1.size)).mono hbr.size)
          clear hv1 hv2 hv3 hbr
          go_wp2
          go_roundw
          case rel => exact ⟨k + 5, by go_num, by omega, hV3⟩
          case measure => simp [intOf]; omega
        · go_wp2_with fail
          refine (c_DrawRepairBit A n c l _ HL.out hn (holds_belowU HH.out hbr)).mono ?_
          rintro e v1 ⟨x, hx, rfl, hv1⟩
          obtain ⟨X, hX⟩ : ∃ X, rbS x = X := ⟨_, rfl⟩
          obtain ⟨q, hq⟩ : ∃ q, rbI x = q := ⟨_, rfl⟩
          obtain ⟨p, hp⟩ : ∃ p, rbOk x = p := ⟨_, rfl⟩
          have HX := Lib.hid hX
          have HQ := Lib.hid hq
          have HP := Lib.hid hp
          clear hX hq hp
          go_wp2_with fail
          refine (k_RB x X q p HX.out HQ.out HP.out (by omega) _).mono ?_
          rintro e v2 ⟨rfl, hv2⟩
          go_wp2_with fail
          refine (k_RBs x X q p HX.out HQ.out HP.out (by omega) _).mono ?_
          rintro e v3 ⟨rfl, hv3⟩
          have hV3 := (hbr).trans ((hv1.trans ((hv2.trans (hv3.mono hv2.size)).mono hv1.size)).mono (hbr).size)
          clear hv1 hv2 hv3
          go_wp2
          go_ret
          exact ⟨ret_bool (by simp), hV3⟩
  · go_enter Try.func8, Try.ntmps8
    go_wp2_with (go_at_call 15; refine (c_vBig A n c _).mono ?_; rintro e w' ⟨rfl, rfl⟩)
    go_ret
    exact ⟨rfl, Below.refl _ _⟩
end Go.Proofs.Ytfbanjmooknafaa
