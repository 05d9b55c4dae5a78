/-
  The walk of the law on splitting and joining.
-/
import Derived.Test.YtfbanjmooknafaaDS
import Derived.Test.YtfbanjmooknafaaSS
import Derived.Test.YtfbanjmooknafaaJ
namespace Go.Proofs.Ytfbanjmooknafaa
open Go.RowKit Go.ChangeShapes Go.WideShapes Go.ChangeAt Go.Joins Go.Deep
set_option linter.unusedSimpArgs false
set_option linter.unusedVariables false
set_option maxRecDepth 100000

theorem sj0 {s sep : List UInt8} (h : sep.length ≠ 1) : P.ssOk s sep = false ∧ P.ssL s sep = [] := by
  have ho : P.ssOk s sep = false := by unfold P.ssOk; rw [decide_eq_false h, Bool.and_false]
  exact ⟨ho, by unfold P.ssL; rw [ho]; rfl⟩
theorem sj1 {s sep : List UInt8} (h1 : sep.length = 1) (hs : s.length ≤ 4000) : P.ssOk s sep = true ∧ P.jsOk (P.ssL s sep) sep = true ∧ P.jsT (P.ssL s sep) sep = s ∧ (P.ssL s sep).length + P.sumL (P.ssL s sep) ≤ s.length + 1 + s.length := by
  obtain ⟨b, rfl⟩ : ∃ b, sep = [b] := by
    match sep, h1 with
    | [b], _ => exact ⟨b, rfl⟩
  have ho : P.ssOk s [b] = true := by unfold P.ssOk; rw [decide_eq_true hs, decide_eq_true h1]; rfl
  have e : P.ssL s [b] = P.spl b s := by unfold P.ssL; rw [ho]; rfl
  have hj := P.spl_jn b s
  have hl := P.spl_len b s
  have hjl := jn_len b (P.spl b s)
  rw [hj] at hjl
  have hc := List.count_le_length (a := b) (l := s)
  have hjo : P.jsOk (P.spl b s) [b] = true := js_yes (fun e0 => by rw [e0] at hl; simp at hl) (fun x hx => by
    have hf := P.spl_free hx
    unfold P.hasB
    simpa using hf) (by rw [hj]; exact hs)
  rw [e]
  refine ⟨ho, hjo, ?_, by omega⟩
  rw [jsT_yes hjo, hj]
def ltB (x y : List UInt8) : Bool := Op.bytesLess (bs x).toList (bs y).toList
theorem less_asym : ∀ {a b : List UInt8}, Op.bytesLess a b = true → Op.bytesLess b a = false := by
  intro a
  induction a with
  | nil => intro b h; cases b <;> rfl
  | cons x a ih =>
    intro b h
    cases b with
    | nil => simp [Op.bytesLess] at h
    | cons y b =>
      simp only [Op.bytesLess, Bool.or_eq_true, Bool.and_eq_true, decide_eq_true_eq, beq_iff_eq] at h
      simp only [Op.bytesLess, Bool.or_eq_false_iff, Bool.and_eq_false_iff, decide_eq_false_iff_not, beq_eq_false_iff_ne]
      rcases h with h | ⟨rfl, h⟩
      · refine ⟨fun h2 => ?_, .inl (fun e => ?_)⟩
        · rw [UInt8.lt_iff_toNat_lt] at h h2; omega
        · subst e; rw [UInt8.lt_iff_toNat_lt] at h; omega
      · refine ⟨fun h2 => ?_, .inr (ih h)⟩
        rw [UInt8.lt_iff_toNat_lt] at h2; omega
theorem lt_asym {x y : List UInt8} (h : ltB x y = true) : ltB y x = false := less_asym h
theorem k_LS (x y : List UInt8) (o : Bool) (ho : ltB x y = o) (hx : x.length ≤ 1000) (hy : y.length ≤ 1000) (w : World) : Calls Try.prog 37 #[.string (bs x), .string (bs y)] w fun e w' => e = .returned (.bool o) ∧ w = w' := by
  have HO := Lib.hid ho
  clear ho
  go_enter Try.func37, Try.ntmps37
  go_wp2
  go_ret
  exact ⟨by rw [← HO.out]; rfl, rfl⟩
theorem k_LSs (x y : List UInt8) (o : Bool) (ho : ltB x y = o) (hx : x.length ≤ 1000) (hy : y.length ≤ 1000) (w : World) : Calls Try.prog 38 #[.string (bs x), .string (bs y)] w fun e w' => e = .returned (.bool o) ∧ w = w' := by
  have HO := Lib.hid ho
  clear ho
  go_enter Try.func38, Try.ntmps38
  go_wp2
  go_ret
  exact ⟨by rw [← HO.out]; rfl, rfl⟩
theorem k_JS (A : Option Addr) (c : Nat) (l : List (List UInt8)) (y T : List UInt8) (o : Bool) (hT : P.jsT l y = T) (ho : P.jsOk l y = o) (hl : l.length + P.sumL l ≤ 1048576) (hy : y.length ≤ 1000) (w : World) (h : Holds w A (l.map vs)) : Calls Try.prog 34 #[.slice A l.length c, .string (bs y)] w fun e w' => e = .returned (.tuple #[.string (bs T), .bool o]) ∧ Below w.heap.size w w' := by
  have h := c_implJoinStrings A l.length c l (bs y) w rfl hl h (by rw [bs_size]; omega)
  rw [show B (bs y) = y from rfl, hT, ho] at h; exact h
theorem k_JSs (A : Option Addr) (c : Nat) (l : List (List UInt8)) (y T : List UInt8) (o : Bool) (hT : P.jsT l y = T) (ho : P.jsOk l y = o) (hl : l.length + P.sumL l ≤ 1048576) (hy : y.length ≤ 1000) (w : World) (h : Holds w A (l.map vs)) : Calls Try.prog 35 #[.slice A l.length c, .string (bs y)] w fun e w' => e = .returned (.tuple #[.string (bs T), .bool o]) ∧ Below w.heap.size w w' := by
  have h := c_specJoinStrings A l.length c l (bs y) w rfl hl h (by rw [bs_size]; omega)
  rw [show B (bs y) = y from rfl, hT, ho] at h
  exact h.mono (fun e w' ⟨a, b⟩ => ⟨a, b.below _⟩)
theorem k_SP (x y : List UInt8) (l : List (List UInt8)) (o : Bool) (hT : P.ssL x y = l) (ho : P.ssOk x y = o) (hx : x.length ≤ 1000) (hy : y.length ≤ 1000) (w : World) : Calls Try.prog 32 #[.string (bs x), .string (bs y)] w fun e w' => ∃ A c, e = .returned (.tuple #[.slice A l.length c, .bool o]) ∧ Holds w' A (l.map vs) ∧ Below w.heap.size w w' := by
  have h := c_implSplitString (bs x) (bs y) w (by rw [bs_size]; omega) (by rw [bs_size]; omega)
  rw [show B (bs x) = x from rfl, show B (bs y) = y from rfl, hT, ho] at h
  refine h.mono ?_
  rintro e w' ⟨A, c, rfl, hown, hb⟩
  rw [List.length_map] at hown ⊢
  exact ⟨A, c, rfl, holds_own hown, hb⟩
set_option maxHeartbeats 4000000 in
theorem l_FnSplitJoin (A : Option Addr) (n c : Nat) (l : List UInt8) (w : World) (hl : l.length = n) (hm : n ≤ maxLen) (h : Holds w A (ub l)) : Calls Try.prog 4 #[.slice A n c] w fun e w' => e = .returned (.bool true) ∧ Below w.heap.size w w' := by
  clear hm
  by_cases hn : n ≤ 65536
  · have HL := Lib.hid hl
    have HH := Lib.hid h
    clear hl h
    go_enter Try.func4, Try.ntmps4
    go_wp2_with (go_at_call 15; refine (c_vBig A n c _).mono ?_; rintro e w' ⟨rfl, rfl⟩)
    refine (c_DrawSplitString A n c l _ HL.out hn HH.out).mono ?_
    rintro e w1 ⟨s, sep, hs, hsep, rfl, hb1⟩
    obtain ⟨ls, hls⟩ : ∃ ls, P.ssL s sep = ls := ⟨_, rfl⟩
    have HLS := Lib.hid hls
    by_cases h1 : sep.length = 1
    · obtain ⟨r1, r2, r3, r4⟩ := sj1 (s := s) h1 (by omega)
      rw [hls] at r2 r3 r4
      have HOK := Lib.hid r1
      have HJO := Lib.hid r2
      have HJT := Lib.hid r3
      have e1 : (((bs sep).size : Int) != 1) = false := by rw [bne_eq_false_iff_eq, bs_size, h1]; rfl
      clear r1 r2 r3 hls h1
      go_wp2_with fail
      refine (k_SP s sep ls true HLS.out HOK.out (by omega) (by omega) _).mono ?_
      rintro e w2 ⟨A2, c2, rfl, hh2, hb2⟩
      have HH2 := Lib.hid hh2
      have hB2 := hb1.trans (hb2.mono hb1.size)
      clear hb1 hb2 hh2
      go_wp2_with fail
      refine (c_DrawJoinStrings A n c l _ HL.out hn (holds_belowU HH.out hB2)).mono ?_
      rintro e w3 ⟨A3, c3, k, m, hk4, hk5, hm10, rfl, hh3, hb3⟩
      obtain ⟨T, hT⟩ : ∃ T, P.jsT k m = T := ⟨_, rfl⟩
      obtain ⟨q, hq⟩ : ∃ q, P.jsOk k m = q := ⟨_, rfl⟩
      have HT := Lib.hid hT
      have HQ := Lib.hid hq
      have HH2' := Lib.hid (holds_belowU HH2.out hb3)
      have HH3 := Lib.hid hh3
      have hB3 := hB2.trans (hb3.mono hB2.size)
      clear hT hq hb3 hh3 hB2 HH2
      go_wp2_with fail
      refine (k_JS A3 c3 k m T q HT.out HQ.out (by omega) (by omega) _ HH3.out).mono ?_
      rintro e w4 ⟨rfl, hb4⟩
      go_wp2_with fail
      refine (k_JSs A3 c3 k m T q HT.out HQ.out (by omega) (by omega) _ (holds_belowU HH3.out hb4)).mono ?_
      rintro e w5 ⟨rfl, hb5⟩
      have hb45 := hb4.trans (hb5.mono hb4.size)
      have HH2'' := Lib.hid (holds_belowU HH2'.out hb45)
      have hB5 := hB3.trans (hb45.mono hB3.size)
      clear hb4 hb5 hb45 hB3 HH2' HH3
      go_wp2_with fail
      refine (c_DrawLessString A n c l _ HL.out hn (holds_belowU HH.out hB5)).mono ?_
      rintro e w6 ⟨a, b, ha, hb, rfl, hb6⟩
      have HH6 := Lib.hid (holds_belowU HH2''.out hb6)
      have hB6 := hB5.trans (hb6.mono hB5.size)
      clear hb6 hB5 HH2''
      obtain ⟨o, ho⟩ : ∃ o, ltB a b = o := ⟨_, rfl⟩
      have HLT := Lib.hid ho
      clear ho
      cases o with
      | false =>
        obtain ⟨o2, ho2⟩ : ∃ o, ltB b a = o := ⟨_, rfl⟩
        have HGT := Lib.hid ho2
        clear ho2
        go_wp2_with (first | (go_at_call 37; first | (refine (k_LS a b false HLT.out (by omega) (by omega) _).mono ?_; rintro e w' ⟨rfl, rfl⟩) | (refine (k_LS b a false HGT.out (by omega) (by omega) _).mono ?_; rintro e w' ⟨rfl, rfl⟩)) | (go_at_call 38; refine (k_LSs a b false HLT.out (by omega) (by omega) _).mono ?_; rintro e w' ⟨rfl, rfl⟩) | fail)
        refine (k_JS A2 c2 ls sep s true HJT.out HJO.out (by omega) (by omega) _ HH6.out).mono ?_
        rintro e w7 ⟨rfl, hb7⟩
        go_wp2
        go_ret
        exact ⟨ret_bool (by simp), hB6.trans (hb7.mono hB6.size)⟩
      | true =>
        have HGT := Lib.hid (lt_asym HLT.out)
        go_wp2_with (first | (go_at_call 37; first | (refine (k_LS a b true HLT.out (by omega) (by omega) _).mono ?_; rintro e w' ⟨rfl, rfl⟩) | (refine (k_LS b a false HGT.out (by omega) (by omega) _).mono ?_; rintro e w' ⟨rfl, rfl⟩)) | (go_at_call 38; refine (k_LSs a b true HLT.out (by omega) (by omega) _).mono ?_; rintro e w' ⟨rfl, rfl⟩) | fail)
        refine (k_JS A2 c2 ls sep s true HJT.out HJO.out (by omega) (by omega) _ HH6.out).mono ?_
        rintro e w7 ⟨rfl, hb7⟩
        go_wp2
        go_ret
        exact ⟨ret_bool (by simp), hB6.trans (hb7.mono hB6.size)⟩
    · obtain ⟨r1, r2⟩ := sj0 (s := s) h1
      rw [hls] at r2
      have HOK := Lib.hid r1
      have e0 : (((ls.length : Nat) : Int) == 0) = true := by rw [r2]; rfl
      have e1 : (((bs sep).size : Int) != 1) = true := by rw [bne_iff_ne, bs_size]; omega
      clear r1 r2 hls h1
      go_wp2_with fail
      refine (k_SP s sep ls false HLS.out HOK.out (by omega) (by omega) _).mono ?_
      rintro e w2 ⟨A2, c2, rfl, hh2, hb2⟩
      have HH2 := Lib.hid hh2
      have hB2 := hb1.trans (hb2.mono hb1.size)
      clear hb1 hb2 hh2
      go_wp2_with fail
      refine (c_DrawJoinStrings A n c l _ HL.out hn (holds_belowU HH.out hB2)).mono ?_
      rintro e w3 ⟨A3, c3, k, m, hk4, hk5, hm10, rfl, hh3, hb3⟩
      obtain ⟨T, hT⟩ : ∃ T, P.jsT k m = T := ⟨_, rfl⟩
      obtain ⟨q, hq⟩ : ∃ q, P.jsOk k m = q := ⟨_, rfl⟩
      have HT := Lib.hid hT
      have HQ := Lib.hid hq
      have HH2' := Lib.hid (holds_belowU HH2.out hb3)
      have HH3 := Lib.hid hh3
      have hB3 := hB2.trans (hb3.mono hB2.size)
      clear hT hq hb3 hh3 hB2 HH2
      go_wp2_with fail
      refine (k_JS A3 c3 k m T q HT.out HQ.out (by omega) (by omega) _ HH3.out).mono ?_
      rintro e w4 ⟨rfl, hb4⟩
      go_wp2_with fail
      refine (k_JSs A3 c3 k m T q HT.out HQ.out (by omega) (by omega) _ (holds_belowU HH3.out hb4)).mono ?_
      rintro e w5 ⟨rfl, hb5⟩
      have hb45 := hb4.trans (hb5.mono hb4.size)
      have HH2'' := Lib.hid (holds_belowU HH2'.out hb45)
      have hB5 := hB3.trans (hb45.mono hB3.size)
      clear hb4 hb5 hb45 hB3 HH2' HH3
      go_wp2_with fail
      refine (c_DrawLessString A n c l _ HL.out hn (holds_belowU HH.out hB5)).mono ?_
      rintro e w6 ⟨a, b, ha, hb, rfl, hb6⟩
      have HH6 := Lib.hid (holds_belowU HH2''.out hb6)
      have hB6 := hB5.trans (hb6.mono hB5.size)
      clear hb6 hB5 HH2''
      obtain ⟨o, ho⟩ : ∃ o, ltB a b = o := ⟨_, rfl⟩
      have HLT := Lib.hid ho
      clear ho
      cases o with
      | false =>
        obtain ⟨o2, ho2⟩ : ∃ o, ltB b a = o := ⟨_, rfl⟩
        have HGT := Lib.hid ho2
        clear ho2
        go_wp2_with (first | (go_at_call 37; first | (refine (k_LS a b false HLT.out (by omega) (by omega) _).mono ?_; rintro e w' ⟨rfl, rfl⟩) | (refine (k_LS b a false HGT.out (by omega) (by omega) _).mono ?_; rintro e w' ⟨rfl, rfl⟩)) | (go_at_call 38; refine (k_LSs a b false HLT.out (by omega) (by omega) _).mono ?_; rintro e w' ⟨rfl, rfl⟩) | fail)
        go_ret
        exact ⟨ret_bool (by first | rfl | simp | decide), hB6⟩
      | true =>
        have HGT := Lib.hid (lt_asym HLT.out)
        go_wp2_with (first | (go_at_call 37; first | (refine (k_LS a b true HLT.out (by omega) (by omega) _).mono ?_; rintro e w' ⟨rfl, rfl⟩) | (refine (k_LS b a false HGT.out (by omega) (by omega) _).mono ?_; rintro e w' ⟨rfl, rfl⟩)) | (go_at_call 38; refine (k_LSs a b true HLT.out (by omega) (by omega) _).mono ?_; rintro e w' ⟨rfl, rfl⟩) | fail)
        go_ret
        exact ⟨ret_bool (by first | rfl | simp | decide), hB6⟩
  · go_enter Try.func4, Try.ntmps4
    go_wp2_with (go_at_call 15; refine (c_vBig A n c _).mono ?_; rintro e w' ⟨rfl, rfl⟩)
    go_ret
    exact ⟨rfl, Below.refl _ _⟩
end Go.Proofs.Ytfbanjmooknafaa
