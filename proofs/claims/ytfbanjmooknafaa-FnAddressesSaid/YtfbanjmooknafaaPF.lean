/-
  Contracts of ParseFrameText, and the walk of its law.
-/
import Derived.Test.YtfbanjmooknafaaFT
import Derived.Test.YtfbanjmooknafaaS
namespace Go.Proofs.Ytfbanjmooknafaa
open Go.RowKit
set_option linter.unusedSimpArgs false
set_option linter.unusedVariables false
set_option maxRecDepth 100000

theorem pf_ret_no {l : List UInt8} (h : P.pfOk l = false) : Ending.returned (.tuple #[.agg #[.int .i64 0, .int .i64 0, .int .i64 0], .bool false]) = .returned (.tuple #[fr (P.pfA l) (P.pfB l) (P.pfC l), .bool (P.pfOk l)]) := by
  rw [h, (P.pf_no h).1, (P.pf_no h).2.1, (P.pf_no h).2.2]
theorem c_implParseFrameText (s : ByteArray) (w : World) (hs : s.size ≤ 2097152) : Calls Try.prog 119 #[.string s] w fun e w' => e = .returned (.tuple #[fr (P.pfA (B s)) (P.pfB (B s)) (P.pfC (B s)), .bool (P.pfOk (B s))]) ∧ Below w.heap.size w w' := by
  have hl := B_len s
  obtain ⟨W0, hW0⟩ : ∃ W0, w.alloc (.cells #[.int .i64 0, .int .i64 0, .int .i64 0] 57) = W0 := ⟨_, rfl⟩
  have hB0 : Below w.heap.size w W0 := by rw [← hW0]; exact (Below.refl _ _).alloc (Nat.le_refl _) _
  have HX0 := Lib.hid (show Box W0 w.heap.size 0 0 0 by rw [← hW0]; exact Box.new w 0 0 0 _)
  go_enter Try.func119, Try.ntmps119
  go_wp2_with fail
  clear hW0
  refine (c_split s 32 _ hs).mono ?_
  rintro e w1 ⟨g, cap, rfl, hown, hb1⟩
  rw [List.length_map] at hown ⊢
  have HOW := Lib.hid hown
  have HX1 := Lib.hid (HX0.out.below hb1)
  have hB1 := hB0.trans (hb1.mono hB0.size)
  clear hown hb1
  by_cases h3 : (P.spl 32 (B s)).length = 3
  · obtain ⟨x0, x1, x2, hw⟩ := P.three_list h3
    have HW := Lib.hid hw
    rw [hw] at HOW ⊢
    have hown := HOW.out
    have hcw0 : w1.cell? ⟨g, 0, none⟩ = some (.string (bs x0)) := hown.cellAt 0 (by simp)
    have hcw1 : w1.cell? ⟨g, 1, none⟩ = some (.string (bs x1)) := hown.cellAt 1 (by simp)
    have hcw2 : w1.cell? ⟨g, 2, none⟩ = some (.string (bs x2)) := hown.cellAt 2 (by simp)
    have hz1 := bs_size x1
    have hz2 := bs_size x2
    have hgl := World.block_lt_of_cell? w1 _ hcw0
    clear hw h3 hown HOW
    by_cases h4 : x1.length = 4
    · by_cases h6 : x2.length = 6
      · have hq1 : (((bs x1).size : Int) != 4) = false := by rw [bne_eq_false_iff_eq]; omega
        have hq2 : (((bs x2).size : Int) != 6) = false := by rw [bne_eq_false_iff_eq]; omega
        have hm1 : (bs x1).size ≤ maxLen := by rw [hz1]; unfold maxLen; omega
        have hm2 : (bs x2).size ≤ maxLen := by rw [hz2]; unfold maxLen; omega
        have H4 := Lib.hid h4
        have H6 := Lib.hid h6
        have HM1 := Lib.hid hm1
        have HM2 := Lib.hid hm2
        clear hz1 hz2 h4 h6 hm1 hm2
        go_wp2_with fail
        refine (c_implBitsFromHex (bs x1) _ HM1.out).mono ?_
        rintro e w2 ⟨rfl, hb2⟩
        rw [B_bs]
        have hcv0 := (hb2.cell (p := ⟨g, 0, none⟩) hgl).trans hcw0
        have hcv2 := (hb2.cell (p := ⟨g, 2, none⟩) hgl).trans hcw2
        have HX2 := Lib.hid (HX1.out.below hb2)
        have hB2 := hB1.trans (hb2.mono hB1.size)
        have hgl2 : g < w2.heap.size := Nat.lt_of_lt_of_le hgl hb2.size
        clear hcw0 hcw1 hcw2 hb2
        obtain ⟨y1, hy1⟩ : ∃ y1, bhL x1 = y1 := ⟨_, rfl⟩
        obtain ⟨u1, hu1⟩ : ∃ u1, P.unhexOk x1 = u1 := ⟨_, rfl⟩
        rw [hy1, hu1]
        have HY1 := Lib.hid hy1
        have HU1 := Lib.hid hu1
        clear hy1 hu1
        go_wp2_with fail
        refine (c_implBitsFromHex (bs x2) _ HM2.out).mono ?_
        rintro e w3 ⟨rfl, hb3⟩
        rw [B_bs]
        have hcu0 := (hb3.cell (p := ⟨g, 0, none⟩) hgl2).trans hcv0
        have HX3 := Lib.hid (HX2.out.below hb3)
        have hB3 := hB2.trans (hb3.mono hB2.size)
        have hgl3 : g < w3.heap.size := Nat.lt_of_lt_of_le hgl2 hb3.size
        clear hcv0 hcv2 hb3
        obtain ⟨y2, hy2⟩ : ∃ y2, bhL x2 = y2 := ⟨_, rfl⟩
        obtain ⟨u2, hu2⟩ : ∃ u2, P.unhexOk x2 = u2 := ⟨_, rfl⟩
        rw [hy2, hu2]
        have HY2 := Lib.hid hy2
        have HU2 := Lib.hid hu2
        clear hy2 hu2
        cases u1 with
        | false =>
          have HF := Lib.hid (P.pf_bad3 HW.out (.inr (.inr (.inl HU1.out))))
          obtain ⟨⟨k0, k1, k2⟩, f0, f1, f2⟩ := HX3.out
          go_wp2
          exact bodyPost_ret (v := .tuple #[.agg #[.int .i64 0, .int .i64 0, .int .i64 0], .bool false]) (by simp [results, Try.results119, go_sem, k0, k1, k2]) rfl ⟨pf_ret_no HF.out, ((hB3.setCell (Nat.le_refl _) _).setCell (Nat.le_refl _) _).setCell (Nat.le_refl _) _⟩
        | true =>
          cases u2 with
          | false =>
            have HF := Lib.hid (P.pf_bad3 HW.out (.inr (.inr (.inr HU2.out))))
            obtain ⟨⟨k0, k1, k2⟩, f0, f1, f2⟩ := HX3.out
            go_wp2
            exact bodyPost_ret (v := .tuple #[.agg #[.int .i64 0, .int .i64 0, .int .i64 0], .bool false]) (by simp [results, Try.results119, go_sem, k0, k1, k2]) rfl ⟨pf_ret_no HF.out, ((hB3.setCell (Nat.le_refl _) _).setCell (Nat.le_refl _) _).setCell (Nat.le_refl _) _⟩
          | true =>
            have HN1 := Lib.hid (show y1 = P.unhexL x1 by rw [← HY1.out]; unfold bhL; rw [HU1.out]; rfl)
            have HN2 := Lib.hid (show y2 = P.unhexL x2 by rw [← HY2.out]; unfold bhL; rw [HU2.out]; rfl)
            have HL1 := Lib.hid (show y1.length = 16 by rw [HN1.out, P.unhexL_len, H4.out])
            have HL2 := Lib.hid (show y2.length = 24 by rw [HN2.out, P.unhexL_len, H6.out])
            have HC1 := Lib.hid (fun W => c_numberOf (bs y1) W (by rw [bs_size, HL1.out]; omega) (by rw [B_bs, HN1.out]; exact P.unhexL_bits _))
            have HC2 := Lib.hid (fun W => c_numberOf (bs y2) W (by rw [bs_size, HL2.out]; omega) (by rw [B_bs, HN2.out]; exact P.unhexL_bits _))
            obtain ⟨n1, hn1⟩ : ∃ n1, P.numL y1 = n1 := ⟨_, rfl⟩
            obtain ⟨n2, hn2⟩ : ∃ n2, P.numL y2 = n2 := ⟨_, rfl⟩
            have HQ1 := Lib.hid (show P.numL (P.unhexL x1) = n1 by rw [← HN1.out]; exact hn1)
            have HQ2 := Lib.hid (show P.numL (P.unhexL x2) = n2 by rw [← HN2.out]; exact hn2)
            have HE1 := Lib.hid (show P.numL (B (bs y1)) = n1 from hn1)
            have HE2 := Lib.hid (show P.numL (B (bs y2)) = n2 from hn2)
            clear hn1 hn2
            go_wp2_with fail
            refine (c_kindWords _).mono ?_
            rintro e w4 ⟨rfl, hkw, hb4⟩
            have hcx0 := (hb4.cell (p := ⟨g, 0, none⟩) hgl3).trans hcu0
            have hgl4 : g < w4.heap.size := Nat.lt_of_lt_of_le hgl3 hb4.size
            have HX4 := Lib.hid (HX3.out.below hb4)
            have hB4 := hB3.trans (hb4.mono hB3.size)
            obtain ⟨gk, hgk⟩ : ∃ gk, w3.heap.size = gk := ⟨_, rfl⟩
            rw [hgk] at hkw ⊢
            have HKW := Lib.hid hkw
            have HC0 := Lib.hid hcx0
            clear hgk hkw hcu0 hb4 hcx0 hgl3
            go_wp2
            go_loopw [55] (fun i wr => ∃ k : Nat, k ≤ 5 ∧ i = .int .i64 k ∧ wr.cell? ⟨g, 0, none⟩ = some (.string (bs x0)) ∧ KWs wr gk ∧ Box wr w.heap.size 0 0 0 ∧ (∀ j, j < k → P.kW j = x0 → P.frB j n1 n2 = false) ∧ Below w.heap.size w wr) (fun i _ => 5 - (intOf i).toNat)
            case atStart => exact ⟨0, by omega, rfl, HC0.out, HKW.out, HX4.out, fun j hj => absurd hj (by omega), hB4⟩
            case round =>
              obtain ⟨k, hk, rfl, hc0, hkw, hbx, hno, hb⟩ := hrel
              have HNO := Lib.hid hno
              have HBX := Lib.hid hbx
              have HKW2 := Lib.hid hkw
              have hgr := World.block_lt_of_cell? wr _ hc0
              have hgw := World.block_lt_of_cell? wr _ hbx.1.1
              have HC02 := Lib.hid hc0
              clear hno hbx
              by_cases hlt : k < 5
              · have hck := hkw k hlt
                clear hkw
                go_wp2_with fail
                refine (HC1.out _).mono ?_
                rintro e w' ⟨rfl, rfl⟩
                rw [HE1.out]
                go_wp2_with fail
                refine (HC2.out _).mono ?_
                rintro e w' ⟨rfl, rfl⟩
                rw [HE2.out]
                have hn5 : Below wr.heap.size wr (wr.alloc (.cells #[.int .i64 k, .int .i64 n1, .int .i64 n2] 57)) := (Below.refl _ _).alloc (Nat.le_refl _) _
                obtain ⟨W5, hW5⟩ : ∃ W5, wr.alloc (.cells #[.int .i64 k, .int .i64 n1, .int .i64 n2] 57) = W5 := ⟨_, rfl⟩
                have HB5 := Lib.hid (show Box W5 wr.heap.size k n1 n2 by rw [← hW5]; exact Box.new wr _ _ _ _)
                rw [hW5] at hn5
                have hc05 := (hn5.cell (p := ⟨g, 0, none⟩) hgr).trans hc0
                have HX5 := Lib.hid (HBX.out.below hn5)
                have HK5 := Lib.hid (HKW2.out.below hn5)
                have hb5 := hb.trans (hn5.mono hb.size)
                have hs5 := hn5.size
                have hgf5 := World.block_lt_of_cell? W5 _ HB5.out.1.1
                obtain ⟨⟨j0, j1, j2⟩, _, _, _⟩ := HB5.out
                have hgr5 : g < W5.heap.size := Nat.lt_of_lt_of_le hgr hs5
                clear hc0 hck
                by_cases hx : P.kW k = x0
                · have e1 := cmp_eq (a := bs (P.kW k)) (b := bs x0) hx
                  cases hfr : frOk k n1 n2 with
                  | true =>
                    have HFR := Lib.hid hfr
                    have HR := Lib.hid (P.pf_found HW.out H4.out H6.out HU1.out HU2.out hx (by rw [HQ1.out, HQ2.out]; exact hfr))
                    clear hx hfr
                    go_wp2_with fail
                    refine (c_implIsValidFrame k n1 n2 _).mono ?_
                    rintro e w6 ⟨rfl, hb6⟩
                    rw [HFR.out]
                    obtain ⟨⟨q0, q1, q2⟩, _, _, _⟩ := HB5.out.below hb6
                    obtain ⟨⟨k0, k1, k2⟩, f0, f1, f2⟩ := HX5.out.below hb6
                    have hbf := hb5.trans (hb6.mono hb5.size)
                    clear hb6 j0 j1 j2
                    go_wp2
                    exact bodyPost_ret (v := .tuple #[.agg #[.int .i64 k, .int .i64 n1, .int .i64 n2], .bool true]) (by simp [results, Try.results119, go_sem, k0, k1, k2]) rfl ⟨by rw [HR.out.1, HR.out.2.1, HR.out.2.2.1, HR.out.2.2.2, HQ1.out, HQ2.out], ((hbf.setCell (Nat.le_refl _) _).setCell (Nat.le_refl _) _).setCell (Nat.le_refl _) _⟩
                  | false =>
                    have HFR := Lib.hid hfr
                    have HN := Lib.hid (show ∀ j, j < k + 1 → P.kW j = x0 → P.frB j n1 n2 = false from fun j hj hxj => by
                      rcases Nat.lt_or_ge j k with h | h
                      · exact HNO.out j h hxj
                      · have : j = k := by omega
                        subst this; exact hfr)
                    clear hx hfr
                    go_wp2_with fail
                    refine (c_implIsValidFrame k n1 n2 _).mono ?_
                    rintro e w6 ⟨rfl, hb6⟩
                    rw [HFR.out]
                    have hc06 := (hb6.cell (p := ⟨g, 0, none⟩) hgr5).trans hc05
                    have HX6 := Lib.hid (HX5.out.below hb6)
                    have HK6 := Lib.hid (HK5.out.below hb6)
                    have hbf := hb5.trans (hb6.mono hb5.size)
                    have HC6 := Lib.hid hc06
                    clear hb6 j0 j1 j2 hc05 hc06
                    go_wp2
                    go_roundw
                    case rel => exact ⟨k + 1, by omega, by go_num, HC6.out, HK6.out, HX6.out, HN.out, hbf⟩
                    case measure => simp [intOf]; omega
                · have e1 := cmp_ne (a := bs (P.kW k)) (b := bs x0) hx
                  have HN := Lib.hid (show ∀ j, j < k + 1 → P.kW j = x0 → P.frB j n1 n2 = false from fun j hj hxj => by
                    rcases Nat.lt_or_ge j k with h | h
                    · exact HNO.out j h hxj
                    · have : j = k := by omega
                      subst this; exact absurd hxj hx)
                  clear hx
                  go_wp2
                  go_roundw
                  case rel => exact ⟨k + 1, by omega, by go_num, hc05, HK5.out, HX5.out, HN.out, hb5⟩
                  case measure => simp [intOf]; omega
              · have HF := Lib.hid (P.pf_none HW.out (fun j hj hx => by rw [HQ1.out, HQ2.out]; exact HNO.out j (by omega) hx))
                obtain ⟨⟨k0, k1, k2⟩, f0, f1, f2⟩ := HBX.out
                clear hkw
                go_wp2
                exact bodyPost_ret (v := .tuple #[.agg #[.int .i64 0, .int .i64 0, .int .i64 0], .bool false]) (by simp [results, Try.results119, go_sem, k0, k1, k2]) rfl ⟨pf_ret_no HF.out, ((hb.setCell (Nat.le_refl _) _).setCell (Nat.le_refl _) _).setCell (Nat.le_refl _) _⟩
      · have hq1 : (((bs x1).size : Int) != 4) = false := by rw [bne_eq_false_iff_eq]; omega
        have hq2 : (((bs x2).size : Int) != 6) = true := by rw [bne_iff_ne]; omega
        have HF := Lib.hid (P.pf_bad3 HW.out (.inr (.inl h6)))
        obtain ⟨⟨k0, k1, k2⟩, f0, f1, f2⟩ := HX1.out
        clear h4 h6 hz1 hz2
        go_wp2
        exact bodyPost_ret (v := .tuple #[.agg #[.int .i64 0, .int .i64 0, .int .i64 0], .bool false]) (by simp [results, Try.results119, go_sem, k0, k1, k2]) rfl ⟨pf_ret_no HF.out, ((hB1.setCell (Nat.le_refl _) _).setCell (Nat.le_refl _) _).setCell (Nat.le_refl _) _⟩
    · have hq : (((bs x1).size : Int) != 4) = true := by rw [bne_iff_ne]; omega
      have HF := Lib.hid (P.pf_bad3 HW.out (.inl h4))
      obtain ⟨⟨k0, k1, k2⟩, f0, f1, f2⟩ := HX1.out
      clear h4 hz1 hz2
      go_wp2
      exact bodyPost_ret (v := .tuple #[.agg #[.int .i64 0, .int .i64 0, .int .i64 0], .bool false]) (by simp [results, Try.results119, go_sem, k0, k1, k2]) rfl ⟨pf_ret_no HF.out, ((hB1.setCell (Nat.le_refl _) _).setCell (Nat.le_refl _) _).setCell (Nat.le_refl _) _⟩
  · obtain ⟨n, hn⟩ : ∃ n, (P.spl 32 (B s)).length = n := ⟨_, rfl⟩
    rw [hn] at h3 ⊢
    have hq : ((n : Int) != 3) = true := by rw [bne_iff_ne]; omega
    have HF := Lib.hid (show P.pfOk (B s) = false by unfold P.pfOk; rw [hn, decide_eq_false h3]; rfl)
    obtain ⟨⟨k0, k1, k2⟩, f0, f1, f2⟩ := HX1.out
    clear hn h3
    go_wp2
    exact bodyPost_ret (v := .tuple #[.agg #[.int .i64 0, .int .i64 0, .int .i64 0], .bool false]) (by simp [results, Try.results119, go_sem, k0, k1, k2]) rfl ⟨pf_ret_no HF.out, ((hB1.setCell (Nat.le_refl _) _).setCell (Nat.le_refl _) _).setCell (Nat.le_refl _) _⟩
end Go.Proofs.Ytfbanjmooknafaa
