/-
  The walk of the law on syndromes.
-/
import Derived.Test.YtfbanjmooknafaaLP
namespace Go.Proofs.Ytfbanjmooknafaa
open Go.RowKit Go.ChangeShapes Go.WideShapes Go.ChangeAt Go.Joins Go.Deep
set_option linter.unusedSimpArgs false
set_option linter.unusedVariables false
set_option maxRecDepth 100000

set_option maxHeartbeats 4000000 in
theorem l_FnSyndromes (A : Option Addr) (n c : Nat) (l : List UInt8) (w : World) (hl : l.length = n) (hm : n ≤ maxLen) (h : Holds w A (ub l)) : Calls Try.prog 3 #[.slice A n c] w fun e w' => e = .returned (.bool true) ∧ Below w.heap.size w w' := by
  clear hm
  by_cases hn : n ≤ 65536
  · have HL := Lib.hid hl
    have HH := Lib.hid h
    clear hl h
    go_enter Try.func3, Try.ntmps3
    go_wp2_with (go_at_call 15; refine (c_vBig A n c _).mono ?_; rintro e w' ⟨rfl, rfl⟩)
    refine (c_DrawSyndromeOf A n c l _ HL.out hn HH.out).mono ?_
    rintro e w1 ⟨s, hs, rfl, hb1⟩
    obtain ⟨x, hx⟩ : ∃ x, syS s = x := ⟨_, rfl⟩
    obtain ⟨o, ho⟩ : ∃ o, crOk s = o := ⟨_, rfl⟩
    obtain ⟨m, hm⟩ : ∃ m, wfI s = m := ⟨_, rfl⟩
    have hxl := sy_len s
    rw [hx] at hxl
    have HX0 := Lib.hid hx
    have HO := Lib.hid ho
    have HM := Lib.hid hm
    clear hx ho hm
    go_wp2_with fail
    refine (k_SY s x o HX0.out HO.out (by omega) _).mono ?_
    rintro e w2 ⟨rfl, hb2⟩
    go_wp2_with fail
    refine (k_SYs s x o HX0.out HO.out (by omega) _).mono ?_
    rintro e w3 ⟨rfl, hb3⟩
    go_wp2_with fail
    refine (k_WF s m o HM.out HO.out (by omega) _).mono ?_
    rintro e w4 ⟨rfl, hb4⟩
    go_wp2_with fail
    refine (k_WFs s m o HM.out HO.out (by omega) _).mono ?_
    rintro e w5 ⟨rfl, hb5⟩
    have hB3 := hb1.trans ((hb2.trans (hb3.mono hb2.size)).mono hb1.size)
    have hB5 := hB3.trans ((hb4.trans (hb5.mono hb4.size)).mono hB3.size)
    clear hb1 hb2 hb3 hb4 hb5 hB3
    cases o with
    | false =>
      go_wp2_with fail
      refine (c_DrawPatternOf A n c l _ HL.out hn (holds_belowU HH.out hB5)).mono ?_
      rintro e v1 ⟨x, i, ⟨x0, x1⟩, ⟨i0, i1⟩, rfl, hv1⟩
      obtain ⟨X, hX⟩ : ∃ X, ptS x i = X := ⟨_, rfl⟩
      obtain ⟨p, hp⟩ : ∃ p, ptOk x i = p := ⟨_, rfl⟩
      have HX := Lib.hid hX
      have HP := Lib.hid hp
      clear hX hp
      go_wp2_with fail
      refine (k_PT x i X p HX.out HP.out _).mono ?_
      rintro e v2 ⟨rfl, hv2⟩
      go_wp2_with fail
      refine (k_PTs x i X p HX.out HP.out _).mono ?_
      rintro e v3 ⟨rfl, hv3⟩
      have hV3 := (hB5).trans ((hv1.trans ((hv2.trans (hv3.mono hv2.size)).mono hv1.size)).mono (hB5).size)
      clear hv1 hv2 hv3
      go_wp2_with fail
      refine (c_DrawParityOf A n c l _ HL.out hn (holds_belowU HH.out hV3)).mono ?_
      rintro e v4 ⟨u, hu, rfl, hv4⟩
      obtain ⟨U, hU⟩ : ∃ U, paS u = U := ⟨_, rfl⟩
      obtain ⟨q, hq⟩ : ∃ q, paOk u = q := ⟨_, rfl⟩
      have HU := Lib.hid hU
      have HQ := Lib.hid hq
      clear hU hq
      go_wp2_with fail
      refine (k_PA u U q HU.out HQ.out (by omega) _).mono ?_
      rintro e v5 ⟨rfl, hv5⟩
      go_wp2_with fail
      refine (k_PAs u U q HU.out HQ.out (by omega) _).mono ?_
      rintro e v6 ⟨rfl, hv6⟩
      have hV6 := hV3.trans ((hv4.trans ((hv5.trans (hv6.mono hv5.size)).mono hv4.size)).mono hV3.size)
      clear hv4 hv5 hv6
      go_wp2
      go_ret
      exact ⟨ret_bool (by simp), hV6⟩
    | true =>
      obtain ⟨k, hk, h64, f1, f2, f3, f4, f5, f6, f7, f8⟩ := syn1 HO.out
      obtain ⟨t, ht⟩ : ∃ t, fbL s k = t := ⟨_, rfl⟩
      obtain ⟨p, hp⟩ : ∃ p, ptS s.length k = p := ⟨_, rfl⟩
      obtain ⟨y, hy⟩ : ∃ y, syS t = y := ⟨_, rfl⟩
      rw [ht] at f2 f3 f6
      rw [hp] at f5 f6 f8
      rw [hy] at f6
      rw [HX0.out] at f5 f6 f7
      have F1 := Lib.hid f1
      have F3 := Lib.hid f3
      have F4 := Lib.hid f4
      have F5 := Lib.hid f5
      have F6 := Lib.hid f6
      have HT := Lib.hid ht
      have HP := Lib.hid hp
      have HY := Lib.hid hy
      have hss := bs_size s
      have hki : (s.length : Int) / 2 = (k : Int) := by omega
      have S2 := syn2 HO.out
      rw [HM.out] at S2
      have HS2 := Lib.hid S2
      clear f1 f3 f4 f5 f6 ht hp hy S2 hk
      go_wp2_with fail
      try rw [hki]
      refine (k_FB s k t true HT.out F1.out (by omega) _).mono ?_
      rintro e w6 ⟨rfl, hb6⟩
      go_wp2_with fail
      refine (k_SY t y true HY.out F3.out (by omega) _).mono ?_
      rintro e w7 ⟨rfl, hb7⟩
      go_wp2_with fail
      refine (k_PT s.length k p true HP.out F4.out _).mono ?_
      rintro e w8 ⟨rfl, hb8⟩
      go_wp2_with fail
      refine (k_XB x p y true F6.out F5.out (by omega) (by omega) _).mono ?_
      rintro e w9 ⟨rfl, hb9⟩
      have hB7 := hB5.trans ((hb6.trans (hb7.mono hb6.size)).mono hB5.size)
      have hB9 := hB7.trans ((hb8.trans (hb9.mono hb8.size)).mono hB7.size)
      clear hb6 hb7 hb8 hb9 hB5 hB7
      go_wp2_with fail
      rcases HS2.out with ⟨e0, g1, g2, g3⟩ | ⟨e0, g1, g2, z, g3⟩ | ⟨e0, g1, g2⟩ | ⟨e0, g1, g2⟩
      · have HIS := Lib.hid g1
        have HRO := Lib.hid g2
        have HRI := Lib.hid g3
        subst e0
        clear g1 g2 g3
        refine (k_IS s true true HIS.out HO.out (by omega) _).mono ?_
        rintro e w10 ⟨rfl, hb10⟩
        obtain ⟨RT, hRT⟩ : ∃ RT, rbS s = RT := ⟨_, rfl⟩
        have HRT := Lib.hid hRT
        clear hRT
        go_wp2_with fail
        refine (k_RB s RT (-1) true HRT.out HRI.out HRO.out (by omega) _).mono ?_
        rintro e w11 ⟨rfl, hb11⟩
        have hB11 := hB9.trans ((hb10.trans (hb11.mono hb10.size)).mono hB9.size)
        clear hb10 hb11 hB9
        go_wp2_with fail
        refine (c_DrawPatternOf A n c l _ HL.out hn (holds_belowU HH.out hB11)).mono ?_
        rintro e v1 ⟨x, i, ⟨x0, x1⟩, ⟨i0, i1⟩, rfl, hv1⟩
        obtain ⟨X, hX⟩ : ∃ X, ptS x i = X := ⟨_, rfl⟩
        obtain ⟨p, hp⟩ : ∃ p, ptOk x i = p := ⟨_, rfl⟩
        have HX := Lib.hid hX
        have HP := Lib.hid hp
        clear hX hp
        go_wp2_with fail
        refine (k_PT x i X p HX.out HP.out _).mono ?_
        rintro e v2 ⟨rfl, hv2⟩
        go_wp2_with fail
        refine (k_PTs x i X p HX.out HP.out _).mono ?_
        rintro e v3 ⟨rfl, hv3⟩
        have hV3 := (hB11).trans ((hv1.trans ((hv2.trans (hv3.mono hv2.size)).mono hv1.size)).mono (hB11).size)
        clear hv1 hv2 hv3
        go_wp2_with fail
        refine (c_DrawParityOf A n c l _ HL.out hn (holds_belowU HH.out hV3)).mono ?_
        rintro e v4 ⟨u, hu, rfl, hv4⟩
        obtain ⟨U, hU⟩ : ∃ U, paS u = U := ⟨_, rfl⟩
        obtain ⟨q, hq⟩ : ∃ q, paOk u = q := ⟨_, rfl⟩
        have HU := Lib.hid hU
        have HQ := Lib.hid hq
        clear hU hq
        go_wp2_with fail
        refine (k_PA u U q HU.out HQ.out (by omega) _).mono ?_
        rintro e v5 ⟨rfl, hv5⟩
        go_wp2_with fail
        refine (k_PAs u U q HU.out HQ.out (by omega) _).mono ?_
        rintro e v6 ⟨rfl, hv6⟩
        have hV6 := hV3.trans ((hv4.trans ((hv5.trans (hv6.mono hv5.size)).mono hv4.size)).mono hV3.size)
        clear hv4 hv5 hv6
        go_wp2
        go_ret
        exact ⟨ret_bool (by simp), hV6⟩
      · have HIS := Lib.hid g1
        have HRO := Lib.hid g2
        have HRI := Lib.hid g3
        subst e0
        clear g1 g2 g3
        refine (k_IS s false true HIS.out HO.out (by omega) _).mono ?_
        rintro e w10 ⟨rfl, hb10⟩
        obtain ⟨RT, hRT⟩ : ∃ RT, rbS s = RT := ⟨_, rfl⟩
        have HRT := Lib.hid hRT
        clear hRT
        go_wp2_with fail
        refine (k_RB s RT (z : Int) true HRT.out HRI.out HRO.out (by omega) _).mono ?_
        rintro e w11 ⟨rfl, hb11⟩
        have hB11 := hB9.trans ((hb10.trans (hb11.mono hb10.size)).mono hB9.size)
        clear hb10 hb11 hB9
        go_wp2_with fail
        refine (c_DrawPatternOf A n c l _ HL.out hn (holds_belowU HH.out hB11)).mono ?_
        rintro e v1 ⟨x, i, ⟨x0, x1⟩, ⟨i0, i1⟩, rfl, hv1⟩
        obtain ⟨X, hX⟩ : ∃ X, ptS x i = X := ⟨_, rfl⟩
        obtain ⟨p, hp⟩ : ∃ p, ptOk x i = p := ⟨_, rfl⟩
        have HX := Lib.hid hX
        have HP := Lib.hid hp
        clear hX hp
        go_wp2_with fail
        refine (k_PT x i X p HX.out HP.out _).mono ?_
        rintro e v2 ⟨rfl, hv2⟩
        go_wp2_with fail
        refine (k_PTs x i X p HX.out HP.out _).mono ?_
        rintro e v3 ⟨rfl, hv3⟩
        have hV3 := (hB11).trans ((hv1.trans ((hv2.trans (hv3.mono hv2.size)).mono hv1.size)).mono (hB11).size)
        clear hv1 hv2 hv3
        go_wp2_with fail
        refine (c_DrawParityOf A n c l _ HL.out hn (holds_belowU HH.out hV3)).mono ?_
        rintro e v4 ⟨u, hu, rfl, hv4⟩
        obtain ⟨U, hU⟩ : ∃ U, paS u = U := ⟨_, rfl⟩
        obtain ⟨q, hq⟩ : ∃ q, paOk u = q := ⟨_, rfl⟩
        have HU := Lib.hid hU
        have HQ := Lib.hid hq
        clear hU hq
        go_wp2_with fail
        refine (k_PA u U q HU.out HQ.out (by omega) _).mono ?_
        rintro e v5 ⟨rfl, hv5⟩
        go_wp2_with fail
        refine (k_PAs u U q HU.out HQ.out (by omega) _).mono ?_
        rintro e v6 ⟨rfl, hv6⟩
        have hV6 := hV3.trans ((hv4.trans ((hv5.trans (hv6.mono hv5.size)).mono hv4.size)).mono hV3.size)
        clear hv4 hv5 hv6
        go_wp2
        go_ret
        exact ⟨ret_bool (by simp), hV6⟩
      · have HIS := Lib.hid g1
        have HRO := Lib.hid g2
        obtain ⟨z, g3⟩ : ∃ z, rbI s = z := ⟨_, rfl⟩
        have HRI := Lib.hid g3
        subst e0
        clear g1 g2 g3
        refine (k_IS s false true HIS.out HO.out (by omega) _).mono ?_
        rintro e w10 ⟨rfl, hb10⟩
        obtain ⟨RT, hRT⟩ : ∃ RT, rbS s = RT := ⟨_, rfl⟩
        have HRT := Lib.hid hRT
        clear hRT
        go_wp2_with fail
        refine (k_RB s RT z false HRT.out HRI.out HRO.out (by omega) _).mono ?_
        rintro e w11 ⟨rfl, hb11⟩
        have hB11 := hB9.trans ((hb10.trans (hb11.mono hb10.size)).mono hB9.size)
        clear hb10 hb11 hB9
        go_wp2_with fail
        refine (c_DrawPatternOf A n c l _ HL.out hn (holds_belowU HH.out hB11)).mono ?_
        rintro e v1 ⟨x, i, ⟨x0, x1⟩, ⟨i0, i1⟩, rfl, hv1⟩
        obtain ⟨X, hX⟩ : ∃ X, ptS x i = X := ⟨_, rfl⟩
        obtain ⟨p, hp⟩ : ∃ p, ptOk x i = p := ⟨_, rfl⟩
        have HX := Lib.hid hX
        have HP := Lib.hid hp
        clear hX hp
        go_wp2_with fail
        refine (k_PT x i X p HX.out HP.out _).mono ?_
        rintro e v2 ⟨rfl, hv2⟩
        go_wp2_with fail
        refine (k_PTs x i X p HX.out HP.out _).mono ?_
        rintro e v3 ⟨rfl, hv3⟩
        have hV3 := (hB11).trans ((hv1.trans ((hv2.trans (hv3.mono hv2.size)).mono hv1.size)).mono (hB11).size)
        clear hv1 hv2 hv3
        go_wp2_with fail
        refine (c_DrawParityOf A n c l _ HL.out hn (holds_belowU HH.out hV3)).mono ?_
        rintro e v4 ⟨u, hu, rfl, hv4⟩
        obtain ⟨U, hU⟩ : ∃ U, paS u = U := ⟨_, rfl⟩
        obtain ⟨q, hq⟩ : ∃ q, paOk u = q := ⟨_, rfl⟩
        have HU := Lib.hid hU
        have HQ := Lib.hid hq
        clear hU hq
        go_wp2_with fail
        refine (k_PA u U q HU.out HQ.out (by omega) _).mono ?_
        rintro e v5 ⟨rfl, hv5⟩
        go_wp2_with fail
        refine (k_PAs u U q HU.out HQ.out (by omega) _).mono ?_
        rintro e v6 ⟨rfl, hv6⟩
        have hV6 := hV3.trans ((hv4.trans ((hv5.trans (hv6.mono hv5.size)).mono hv4.size)).mono hV3.size)
        clear hv4 hv5 hv6
        go_wp2
        go_ret
        exact ⟨ret_bool (by simp), hV6⟩
      · have HIS := Lib.hid g1
        have HRO := Lib.hid g2
        obtain ⟨z, g3⟩ : ∃ z, rbI s = z := ⟨_, rfl⟩
        have HRI := Lib.hid g3
        subst e0
        clear g1 g2 g3
        refine (k_IS s false true HIS.out HO.out (by omega) _).mono ?_
        rintro e w10 ⟨rfl, hb10⟩
        obtain ⟨RT, hRT⟩ : ∃ RT, rbS s = RT := ⟨_, rfl⟩
        have HRT := Lib.hid hRT
        clear hRT
        go_wp2_with fail
        refine (k_RB s RT z false HRT.out HRI.out HRO.out (by omega) _).mono ?_
        rintro e w11 ⟨rfl, hb11⟩
        have hB11 := hB9.trans ((hb10.trans (hb11.mono hb10.size)).mono hB9.size)
        clear hb10 hb11 hB9
        go_wp2_with fail
        refine (c_DrawPatternOf A n c l _ HL.out hn (holds_belowU HH.out hB11)).mono ?_
        rintro e v1 ⟨x, i, ⟨x0, x1⟩, ⟨i0, i1⟩, rfl, hv1⟩
        obtain ⟨X, hX⟩ : ∃ X, ptS x i = X := ⟨_, rfl⟩
        obtain ⟨p, hp⟩ : ∃ p, ptOk x i = p := ⟨_, rfl⟩
        have HX := Lib.hid hX
        have HP := Lib.hid hp
        clear hX hp
        go_wp2_with fail
        refine (k_PT x i X p HX.out HP.out _).mono ?_
        rintro e v2 ⟨rfl, hv2⟩
        go_wp2_with fail
        refine (k_PTs x i X p HX.out HP.out _).mono ?_
        rintro e v3 ⟨rfl, hv3⟩
        have hV3 := (hB11).trans ((hv1.trans ((hv2.trans (hv3.mono hv2.size)).mono hv1.size)).mono (hB11).size)
        clear hv1 hv2 hv3
        go_wp2_with fail
        refine (c_DrawParityOf A n c l _ HL.out hn (holds_belowU HH.out hV3)).mono ?_
        rintro e v4 ⟨u, hu, rfl, hv4⟩
        obtain ⟨U, hU⟩ : ∃ U, paS u = U := ⟨_, rfl⟩
        obtain ⟨q, hq⟩ : ∃ q, paOk u = q := ⟨_, rfl⟩
        have HU := Lib.hid hU
        have HQ := Lib.hid hq
        clear hU hq
        go_wp2_with fail
        refine (k_PA u U q HU.out HQ.out (by omega) _).mono ?_
        rintro e v5 ⟨rfl, hv5⟩
        go_wp2_with fail
        refine (k_PAs u U q HU.out HQ.out (by omega) _).mono ?_
        rintro e v6 ⟨rfl, hv6⟩
        have hV6 := hV3.trans ((hv4.trans ((hv5.trans (hv6.mono hv5.size)).mono hv4.size)).mono hV3.size)
        clear hv4 hv5 hv6
        go_wp2
        go_ret
        exact ⟨ret_bool (by simp), hV6⟩
  · go_enter Try.func3, Try.ntmps3
    go_wp2_with (go_at_call 15; refine (c_vBig A n c _).mono ?_; rintro e w' ⟨rfl, rfl⟩)
    go_ret
    exact ⟨rfl, Below.refl _ _⟩
end Go.Proofs.Ytfbanjmooknafaa
