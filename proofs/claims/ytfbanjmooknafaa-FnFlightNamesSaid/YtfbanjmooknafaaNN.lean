/-
  Contracts of NearestName and the walk of its law.
-/
import Derived.Test.YtfbanjmooknafaaNQ
namespace Go.Proofs.Ytfbanjmooknafaa
open Go.RowKit
set_option linter.unusedSimpArgs false
set_option linter.unusedVariables false
set_option maxRecDepth 100000

theorem nn_no {l : List (List UInt8)} {b : List UInt8} (h : P.nnOk l b = false) : P.nnI l b = 0 ∧ P.nnD l b = 0 := by unfold P.nnI P.nnD; rw [h]; exact ⟨rfl, rfl⟩
theorem nn_yes {l : List (List UInt8)} {b : List UInt8} (h : P.nnOk l b = true) : P.nnI l b = (P.nnTo l b l.length).1 ∧ P.nnD l b = (P.nnTo l b l.length).2.1 := by unfold P.nnI P.nnD; rw [h]; exact ⟨rfl, rfl⟩
theorem nn_bad0 {l : List (List UInt8)} {b : List UInt8} (h : P.nnOk0 l b = false) : P.nnOk l b = false := by unfold P.nnOk; rw [h]; rfl
theorem nn_badname {l : List (List UInt8)} {b : List UInt8} {k : Nat} (hk : k < l.length) (h : P.nameB l[k] = false) : P.nnOk l b = false := by
  have : l.all P.nameB = false := by
    rw [Bool.eq_false_iff]; intro e
    have := List.all_eq_true.1 e _ (List.getElem_mem hk)
    rw [h] at this; cases this
  unfold P.nnOk; rw [this]; simp
theorem nn_end {l : List (List UInt8)} {b : List UInt8} {r : Bool} (h0 : P.nnOk0 l b = true) (h : l.all P.nameB = true) (hr : (P.nnTo l b l.length).2.2 = r) : P.nnOk l b = !r := by
  unfold P.nnOk; rw [h0, h, hr]; rfl
theorem nn_getD {l : List (List UInt8)} {k : Nat} (h : k < l.length) : l.getD k [] = l[k] := by rw [List.getD_eq_getElem?_getD, List.getElem?_eq_getElem h]; rfl
theorem nn_step {l : List (List UInt8)} {b : List UInt8} {k p q : Nat} {r : Bool} {x : List UInt8} (hk : k < l.length) (hx : l[k] = x) (h : P.nnTo l b k = (p, q, r)) :
    P.nnTo l b (k + 1) = P.nnSt b (p, q, r) k x := by rw [P.nnTo, h, nn_getD hk, hx]
theorem nnSt_lt {b x : List UInt8} {p q i n : Nat} {r : Bool} (hn : P.onesL (P.xorL (P.nbL x) b) = n) (h : n < q) : P.nnSt b (p, q, r) i x = (i, n, false) := by unfold P.nnSt; rw [hn, if_pos h]
theorem nnSt_eq {b x : List UInt8} {p q i n : Nat} {r : Bool} (hn : P.onesL (P.xorL (P.nbL x) b) = n) (h : n = q) : P.nnSt b (p, q, r) i x = (p, q, true) := by unfold P.nnSt; rw [hn, if_neg (by show ¬ n < q; omega), if_pos h]
theorem nnSt_gt {b x : List UInt8} {p q i n : Nat} {r : Bool} (hn : P.onesL (P.xorL (P.nbL x) b) = n) (h : q < n) : P.nnSt b (p, q, r) i x = (p, q, r) := by unfold P.nnSt; rw [hn, if_neg (by show ¬ n < q; omega), if_neg (by show ¬ n = q; omega)]
theorem nn_ones {b x : List UInt8} {n : Nat} (hb : b.length = 48) (hn : P.onesL (P.xorL (P.nbL x) b) = n) : n ≤ 48 := by
  have h1 := P.onesL_le (P.xorL (P.nbL x) b)
  rw [P.xorL_len (by rw [P.nbL_len, hb]), P.nbL_len, hn] at h1
  exact h1
theorem bs_xor_size (x : List UInt8) {b : ByteArray} (hb : b.size = 48) : (bs (P.xorL (P.nbL x) (B b))).size ≤ 64 := by
  rw [bs_size, P.xorL_len (by rw [P.nbL_len, B_len, hb]), P.nbL_len]; omega
/-- the least number that the program holds after k names -/
def lsI (k q : Nat) : Int := if k = 0 then -1 else q
theorem ls_pos {k q : Nat} (h : 0 < k) : lsI k q = q := if_neg (by omega)
theorem ls_cases (k q : Nat) : (k = 0 ∧ lsI k q < 0) ∨ (0 < k ∧ 0 ≤ lsI k q ∧ lsI k q = q) := by
  rcases Nat.eq_zero_or_pos k with h | h
  · left; unfold lsI; rw [if_pos h]; exact ⟨h, by omega⟩
  · right; rw [ls_pos h]; exact ⟨h, by omega, rfl⟩
theorem c_ones_l (x : List UInt8) (w : World) (hs : x.length ≤ 64) : Calls Try.prog 157 #[.string (bs x)] w fun e w' => e = .returned (.int .i64 (P.onesL x)) ∧ w = w' := c_ones (bs x) w (by rw [bs_size]; exact hs)
theorem c_l2Ones_l (x : List UInt8) (w : World) (hs : x.length ≤ 64) : Calls Try.prog 179 #[.string (bs x)] w fun e w' => e = .returned (.int .i64 (P.onesL x)) ∧ w = w' := c_l2Ones (bs x) w (by rw [bs_size]; exact hs)
theorem c_isFN_l (x : List UInt8) (w : World) (hs : x.length ≤ maxLen) : Calls Try.prog 90 #[.string (bs x)] w fun e w' => e = .returned (.bool (P.nameB x)) ∧ w = w' := c_implIsFlightName (bs x) w (by rw [bs_size]; exact hs)
theorem c_l3Name_l (x : List UInt8) (w : World) (hs : x.length ≤ maxLen) : Calls Try.prog 190 #[.string (bs x)] w fun e w' => e = .returned (.bool (P.nameB x)) ∧ w = w' := c_l3Name (bs x) w (by rw [bs_size]; exact hs)
theorem c_nameBits_l (x : List UInt8) (w : World) (hs : x.length ≤ maxLen) : Calls Try.prog 189 #[.string (bs x)] w fun e w' => e = .returned (.string (bs (P.nbL x))) ∧ Below w.heap.size w w' := c_nameBits (bs x) w (by rw [bs_size]; exact hs)
theorem c_implNearestName (A : Option Addr) (n c : Nat) (l : List (List UInt8)) (b : ByteArray) (w : World) (hl : l.length = n) (hn : n ≤ maxLen) (h : Holds w A (l.map vs)) (hx : ∀ x ∈ l, x.length ≤ maxLen) (hbs : b.size ≤ maxLen) :
    Calls Try.prog 105 #[.slice A n c, .string b] w fun e w' => e = .returned (.tuple #[.int .i64 (P.nnI l (B b)), .int .i64 (P.nnD l (B b)), .bool (P.nnOk l (B b))]) ∧ Below w.heap.size w w' := by
  have hbl := B_len b
  unfold maxLen at hn
  cases hin : P.inB (n : Int) 1 20 with
  | false =>
    have HF := Lib.hid (nn_bad0 (l := l) (b := B b) (by unfold P.nnOk0; rw [hl, hin]; rfl))
    clear h hx hl
    go_enter Try.func105, Try.ntmps105
    go_wp2_with (go_at_call 141; refine (c_within _ _ _ _).mono ?_; rintro e w' ⟨rfl, rfl⟩)
    go_ret3
    exact ⟨ret_iib (by rw [(nn_no HF.out).1]) (by rw [(nn_no HF.out).2]) HF.out.symm, Below.refl _ _⟩
  | true =>
    obtain ⟨h1, h20⟩ := P.inB_iff.1 hin
    cases hib : P.isBits (B b) with
    | false =>
      have HF := Lib.hid (nn_bad0 (l := l) (b := B b) (by unfold P.nnOk0; rw [hib]; simp))
      have HIN := Lib.hid hin
      clear h hx hl
      go_enter Try.func105, Try.ntmps105
      go_wp2_with (first | (go_at_call 141; refine (c_within _ _ _ _).mono ?_; rintro e w' ⟨rfl, rfl⟩) | (go_at_call 68; refine (c_implIsBits b _ hbs).mono ?_; rintro e w' ⟨rfl, rfl⟩))
      go_ret3
      exact ⟨ret_iib (by rw [(nn_no HF.out).1]) (by rw [(nn_no HF.out).2]) HF.out.symm, Below.refl _ _⟩
    | true =>
      by_cases h48 : b.size = 48
      · have hq : ((b.size : Int) != 48) = false := by rw [bne_eq_false_iff_eq]; omega
        have HOK := Lib.hid (show P.nnOk0 l (B b) = true by unfold P.nnOk0; rw [hl, hin, hib, decide_eq_true (by omega)]; rfl)
        rcases holds_cases h hl with h3 | ⟨h3, g, o, rfl, hc⟩
        · omega
        · have hgo : g < w.heap.size := World.block_lt_of_cell? w _ (hc 0 (by omega))
          have HC := Lib.hid hc
          have HL := Lib.hid hl
          have HX := Lib.hid hx
          have H48 := Lib.hid h48
          clear h hx hl hc h48
          go_enter Try.func105, Try.ntmps105
          go_wp2_with (first | (go_at_call 141; refine (c_within _ _ _ _).mono ?_; rintro e w' ⟨rfl, rfl⟩) | (go_at_call 68; refine (c_implIsBits b _ hbs).mono ?_; rintro e w' ⟨rfl, rfl⟩))

          go_loopw [7, 8, 9, 29] (fun be le se i wr => ∃ (k p q : Nat) (r : Bool), k ≤ n ∧ i = .int .i64 k ∧ P.nnTo l (B b) k = (p, q, r) ∧ be = .int .i64 p ∧ le = .int .i64 (lsI k q) ∧ se = .bool r ∧ (l.take k).all P.nameB = true ∧ Below w.heap.size w wr) (fun _ _ _ i _ => n - (intOf i).toNat)
          case atStart => exact ⟨0, 0, 49, false, by omega, rfl, rfl, rfl, rfl, rfl, by simp, Below.refl _ _⟩
          case round =>
            obtain ⟨k, p, q, r, hk, rfl, hto, rfl, rfl, rfl, hal, hb⟩ := hrel
            have HTO := Lib.hid hto
            have HAL := Lib.hid hal
            have hsz := hb.size
            clear hto hal
            have hls := ls_cases k q
            obtain ⟨m, hm⟩ : ∃ m, lsI k q = m := ⟨_, rfl⟩
            rw [hm] at hls ⊢
            have HM := Lib.hid hm
            clear hm
            by_cases hlt : k < n
            · obtain ⟨x, hxk⟩ : ∃ x, l[k]'(by rw [HL.out]; exact hlt) = x := ⟨_, rfl⟩
              have hck := HC.out k (by rw [HL.out]; exact hlt)
              rw [hxk] at hck
              have hcr : wr.cell? ⟨g, o + k, none⟩ = some (.string (bs x)) := (hb.cell (p := ⟨g, o + k, none⟩) hgo).trans hck
              have HXK := Lib.hid hxk
              have HXL := Lib.hid (show x.length ≤ maxLen from HX.out x (by rw [← hxk]; exact List.getElem_mem _))
              clear hck hxk
              cases hnm : P.nameB x with
              | false =>
                have HF := Lib.hid (nn_badname (l := l) (b := B b) (k := k) (by rw [HL.out]; exact hlt) (by rw [HXK.out]; exact hnm))
                clear hls
                go_wp2_with (go_at_call 90; refine (c_isFN_l x _ HXL.out).mono ?_; rintro e w' ⟨rfl, rfl⟩)
                go_ret3
                exact ⟨ret_iib (by rw [(nn_no HF.out).1]) (by rw [(nn_no HF.out).2]) HF.out.symm, hb⟩
              | true =>
                have HAN := Lib.hid (show (l.take (k + 1)).all P.nameB = true by
                  rw [List.take_succ_eq_append_getElem (by rw [HL.out]; exact hlt), List.all_append, HAL.out, HXK.out]; simp [hnm])
                have HST := Lib.hid (nn_step (b := B b) (by rw [HL.out]; exact hlt) HXK.out HTO.out)
                obtain ⟨d, hd⟩ : ∃ d, P.onesL (P.xorL (P.nbL x) (B b)) = d := ⟨_, rfl⟩
                have hd48 := nn_ones (b := B b) (by rw [hbl]; exact H48.out) hd
                have HXO := Lib.hid (fun W => c_ones_l (P.xorL (P.nbL x) (B b)) W (by have := bs_xor_size x H48.out; rwa [bs_size] at this))
                have HXX := Lib.hid (fun W => c_xorBits (bs (P.nbL x)) b W (by rw [bs_size, P.nbL_len]; omega) (by rw [bs_size, P.nbL_len]; exact H48.out))
                rw [hd] at HXO
                have HD := Lib.hid hd
                clear hd
                rcases hls with ⟨hk0, hm0⟩ | ⟨hk0, hm0, hmq⟩
                · have HN := Lib.hid (show P.nnTo l (B b) (k + 1) = (k, d, false) by
                    rw [HST.out]
                    have hto := HTO.out
                    rw [hk0] at hto
                    have : q = 49 := by injection hto with _ h; injection h with h _; exact h.symm
                    exact nnSt_lt HD.out (by omega))
                  clear hk0
                  go_wp2_with (first | (go_at_call 90; refine (c_isFN_l x _ HXL.out).mono ?_; rintro e w' ⟨rfl, rfl⟩) | (go_at_call 189; refine (c_nameBits_l x _ HXL.out).mono ?_; rintro e w1 ⟨rfl, hb1⟩) | (go_at_call 142; refine (HXX.out _).mono ?_; rintro e w2 ⟨rfl, hb2⟩) | (go_at_call 157; refine (HXO.out _).mono ?_; rintro e w' ⟨rfl, rfl⟩))
                  go_roundw
                  case rel => exact ⟨k + 1, k, d, false, by omega, by go_num, HN.out, rfl, by rw [ls_pos (by omega)], rfl, HAN.out, hb.trans ((hb1.trans (hb2.mono hb1.size)).mono hsz)⟩
                  case measure => simp [intOf]; omega
                · subst hmq
                  have hm0' : ¬ ((q : Int) < 0) := by omega
                  by_cases hdq : d < q
                  · have HN := Lib.hid (show P.nnTo l (B b) (k + 1) = (k, d, false) by rw [HST.out]; exact nnSt_lt HD.out hdq)
                    go_wp2_with (first | (go_at_call 90; refine (c_isFN_l x _ HXL.out).mono ?_; rintro e w' ⟨rfl, rfl⟩) | (go_at_call 189; refine (c_nameBits_l x _ HXL.out).mono ?_; rintro e w1 ⟨rfl, hb1⟩) | (go_at_call 142; refine (HXX.out _).mono ?_; rintro e w2 ⟨rfl, hb2⟩) | (go_at_call 157; refine (HXO.out _).mono ?_; rintro e w' ⟨rfl, rfl⟩))
                    go_roundw
                    case rel => exact ⟨k + 1, k, d, false, by omega, by go_num, HN.out, rfl, by rw [ls_pos (by omega)], rfl, HAN.out, hb.trans ((hb1.trans (hb2.mono hb1.size)).mono hsz)⟩
                    case measure => simp [intOf]; omega
                  · by_cases hde : d = q
                    · have HN := Lib.hid (show P.nnTo l (B b) (k + 1) = (p, q, true) by rw [HST.out]; exact nnSt_eq HD.out hde)
                      have e1 : ((d : Int) == (q : Int)) = true := beq_iff_eq.2 (by omega)
                      clear hde
                      go_wp2_with (first | (go_at_call 90; refine (c_isFN_l x _ HXL.out).mono ?_; rintro e w' ⟨rfl, rfl⟩) | (go_at_call 189; refine (c_nameBits_l x _ HXL.out).mono ?_; rintro e w1 ⟨rfl, hb1⟩) | (go_at_call 142; refine (HXX.out _).mono ?_; rintro e w2 ⟨rfl, hb2⟩) | (go_at_call 157; refine (HXO.out _).mono ?_; rintro e w' ⟨rfl, rfl⟩))
                      go_roundw
                      case rel => exact ⟨k + 1, p, q, true, by omega, by go_num, HN.out, rfl, by rw [ls_pos (by omega)], rfl, HAN.out, hb.trans ((hb1.trans (hb2.mono hb1.size)).mono hsz)⟩
                      case measure => simp [intOf]; omega
                    · have HN := Lib.hid (show P.nnTo l (B b) (k + 1) = (p, q, r) by rw [HST.out]; exact nnSt_gt HD.out (by omega))
                      have e1 : ((d : Int) == (q : Int)) = false := beq_eq_false_iff_ne.2 (by omega)
                      clear hde
                      go_wp2_with (first | (go_at_call 90; refine (c_isFN_l x _ HXL.out).mono ?_; rintro e w' ⟨rfl, rfl⟩) | (go_at_call 189; refine (c_nameBits_l x _ HXL.out).mono ?_; rintro e w1 ⟨rfl, hb1⟩) | (go_at_call 142; refine (HXX.out _).mono ?_; rintro e w2 ⟨rfl, hb2⟩) | (go_at_call 157; refine (HXO.out _).mono ?_; rintro e w' ⟨rfl, rfl⟩))
                      go_roundw
                      case rel => exact ⟨k + 1, p, q, r, by omega, by go_num, HN.out, rfl, by rw [ls_pos (by omega)], rfl, HAN.out, hb.trans ((hb1.trans (hb2.mono hb1.size)).mono hsz)⟩
                      case measure => simp [intOf]; omega
            · have hkn : k = n := by omega
              have HE := Lib.hid (show P.nnTo l (B b) l.length = (p, q, r) by rw [HL.out, ← hkn]; exact HTO.out)
              have HALL := Lib.hid (show l.all P.nameB = true by have := HAL.out; rwa [List.take_of_length_le (by rw [HL.out]; omega)] at this)
              have HR := Lib.hid (show P.nnOk l (B b) = !r from nn_end HOK.out HALL.out (by rw [HE.out]))
              have HMQ := Lib.hid (show m = (q : Int) by rcases hls with ⟨h, _⟩ | ⟨_, _, h⟩; omega; exact h)
              clear hls hkn
              cases r with
              | true =>
                go_wp2
                go_ret3
                exact ⟨ret_iib (by rw [(nn_no HR.out).1]) (by rw [(nn_no HR.out).2]) HR.out.symm, hb⟩
              | false =>
                go_wp2
                go_ret3
                exact ⟨ret_iib (by rw [(nn_yes HR.out).1, HE.out]) (by rw [(nn_yes HR.out).2, HE.out, HMQ.out]) HR.out.symm, hb⟩
      · have hq : ((b.size : Int) != 48) = true := by rw [bne_iff_ne]; omega
        have HF := Lib.hid (nn_bad0 (l := l) (b := B b) (by unfold P.nnOk0; rw [decide_eq_false (p := (B b).length = 48) (by omega)]; simp))
        clear h hx hl
        go_enter Try.func105, Try.ntmps105
        go_wp2_with (first | (go_at_call 141; refine (c_within _ _ _ _).mono ?_; rintro e w' ⟨rfl, rfl⟩) | (go_at_call 68; refine (c_implIsBits b _ hbs).mono ?_; rintro e w' ⟨rfl, rfl⟩))
        go_ret3
        exact ⟨ret_iib (by rw [(nn_no HF.out).1]) (by rw [(nn_no HF.out).2]) HF.out.symm, Below.refl _ _⟩
theorem c_specNearestName (A : Option Addr) (n c : Nat) (l : List (List UInt8)) (b : ByteArray) (w : World) (hl : l.length = n) (hn : n ≤ maxLen) (h : Holds w A (l.map vs)) (hx : ∀ x ∈ l, x.length ≤ maxLen) (hbs : b.size ≤ maxLen) :
    Calls Try.prog 106 #[.slice A n c, .string b] w fun e w' => e = .returned (.tuple #[.int .i64 (P.nnI l (B b)), .int .i64 (P.nnD l (B b)), .bool (P.nnOk l (B b))]) ∧ Below w.heap.size w w' := by
  have hbl := B_len b
  unfold maxLen at hn
  cases hin : P.inB (n : Int) 1 20 with
  | false =>
    have HF := Lib.hid (nn_bad0 (l := l) (b := B b) (by unfold P.nnOk0; rw [hl, hin]; rfl))
    clear h hx hl
    go_enter Try.func106, Try.ntmps106
    go_wp2_with (go_at_call 145; refine (c_l1In _ _ _ _).mono ?_; rintro e w' ⟨rfl, rfl⟩)
    go_ret3
    exact ⟨ret_iib (by rw [(nn_no HF.out).1]) (by rw [(nn_no HF.out).2]) HF.out.symm, Below.refl _ _⟩
  | true =>
    obtain ⟨h1, h20⟩ := P.inB_iff.1 hin
    cases hib : P.isBits (B b) with
    | false =>
      have HF := Lib.hid (nn_bad0 (l := l) (b := B b) (by unfold P.nnOk0; rw [hib]; simp))
      have HIN := Lib.hid hin
      clear h hx hl
      go_enter Try.func106, Try.ntmps106
      go_wp2_with (first | (go_at_call 145; refine (c_l1In _ _ _ _).mono ?_; rintro e w' ⟨rfl, rfl⟩) | (go_at_call 149; refine (c_l2Good b _ hbs).mono ?_; rintro e w' ⟨rfl, rfl⟩))
      go_ret3
      exact ⟨ret_iib (by rw [(nn_no HF.out).1]) (by rw [(nn_no HF.out).2]) HF.out.symm, Below.refl _ _⟩
    | true =>
      by_cases h48 : b.size = 48
      · have hq : ((b.size : Int) != 48) = false := by rw [bne_eq_false_iff_eq]; omega
        have HOK := Lib.hid (show P.nnOk0 l (B b) = true by unfold P.nnOk0; rw [hl, hin, hib, decide_eq_true (by omega)]; rfl)
        rcases holds_cases h hl with h3 | ⟨h3, g, o, rfl, hc⟩
        · omega
        · have hgo : g < w.heap.size := World.block_lt_of_cell? w _ (hc 0 (by omega))
          have HC := Lib.hid hc
          have HL := Lib.hid hl
          have HX := Lib.hid hx
          have H48 := Lib.hid h48
          clear h hx hl hc h48
          go_enter Try.func106, Try.ntmps106
          go_wp2_with (first | (go_at_call 145; refine (c_l1In _ _ _ _).mono ?_; rintro e w' ⟨rfl, rfl⟩) | (go_at_call 149; refine (c_l2Good b _ hbs).mono ?_; rintro e w' ⟨rfl, rfl⟩))
          go_loopw [7, 8, 9, 10] (fun be le se i wr => ∃ (k p q : Nat) (r : Bool), k ≤ n ∧ i = .int .i64 k ∧ P.nnTo l (B b) k = (p, q, r) ∧ be = .int .i64 p ∧ le = .int .i64 q ∧ se = .bool r ∧ q ≤ 49 ∧ (l.take k).all P.nameB = true ∧ Below w.heap.size w wr) (fun _ _ _ i _ => n - (intOf i).toNat)
          case atStart => exact ⟨0, 0, 49, false, by omega, rfl, rfl, rfl, rfl, rfl, by omega, by simp, Below.refl _ _⟩
          case round =>
            obtain ⟨k, p, q, r, hk, rfl, hto, rfl, rfl, rfl, hq49, hal, hb⟩ := hrel
            have HTO := Lib.hid hto
            have HAL := Lib.hid hal
            have hsz := hb.size
            clear hto hal
            by_cases hlt : k < n
            · obtain ⟨x, hxk⟩ : ∃ x, l[k]'(by rw [HL.out]; exact hlt) = x := ⟨_, rfl⟩
              have hck := HC.out k (by rw [HL.out]; exact hlt)
              rw [hxk] at hck
              have hcr : wr.cell? ⟨g, o + k, none⟩ = some (.string (bs x)) := (hb.cell (p := ⟨g, o + k, none⟩) hgo).trans hck
              have HXK := Lib.hid hxk
              have HXL := Lib.hid (show x.length ≤ maxLen from HX.out x (by rw [← hxk]; exact List.getElem_mem _))
              clear hck hxk
              cases hnm : P.nameB x with
              | false =>
                have HF := Lib.hid (nn_badname (l := l) (b := B b) (k := k) (by rw [HL.out]; exact hlt) (by rw [HXK.out]; exact hnm))
                go_wp2_with (go_at_call 190; refine (c_l3Name_l x _ HXL.out).mono ?_; rintro e w' ⟨rfl, rfl⟩)
                go_ret3
                exact ⟨ret_iib (by rw [(nn_no HF.out).1]) (by rw [(nn_no HF.out).2]) HF.out.symm, hb⟩
              | true =>
                have HAN := Lib.hid (show (l.take (k + 1)).all P.nameB = true by
                  rw [List.take_succ_eq_append_getElem (by rw [HL.out]; exact hlt), List.all_append, HAL.out, HXK.out]; simp [hnm])
                have HST := Lib.hid (nn_step (b := B b) (by rw [HL.out]; exact hlt) HXK.out HTO.out)
                obtain ⟨d, hd⟩ : ∃ d, P.onesL (P.xorL (P.nbL x) (B b)) = d := ⟨_, rfl⟩
                have hd48 := nn_ones (b := B b) (by rw [hbl]; exact H48.out) hd
                have HXO := Lib.hid (fun W => c_l2Ones_l (P.xorL (P.nbL x) (B b)) W (by have := bs_xor_size x H48.out; rwa [bs_size] at this))
                have HXX := Lib.hid (fun W => c_l2Xor (bs (P.nbL x)) b W (by rw [bs_size, P.nbL_len]; omega) (by rw [bs_size, P.nbL_len]; exact H48.out))
                have HXB := Lib.hid (fun W => c_l3Bits (bs x) W (show P.nameB (B (bs x)) = true from hnm))
                rw [hd] at HXO
                have HD := Lib.hid hd
                clear hd
                by_cases hdq : d < q
                · have HN := Lib.hid (show P.nnTo l (B b) (k + 1) = (k, d, false) by rw [HST.out]; exact nnSt_lt HD.out hdq)
                  go_wp2_with (first | (go_at_call 190; refine (c_l3Name_l x _ HXL.out).mono ?_; rintro e w' ⟨rfl, rfl⟩) | (go_at_call 191; refine (HXB.out _).mono ?_; rintro e w' ⟨rfl, rfl⟩) | (go_at_call 158; refine (HXX.out _).mono ?_; rintro e w2 ⟨rfl, hb2⟩) | (go_at_call 179; refine (HXO.out _).mono ?_; rintro e w' ⟨rfl, rfl⟩))
                  go_roundw
                  case rel => exact ⟨k + 1, k, d, false, by omega, by go_num, HN.out, rfl, rfl, rfl, by omega, HAN.out, hb.trans (hb2.mono hsz)⟩
                  case measure => simp [intOf]; omega
                · by_cases hde : d = q
                  · have HN := Lib.hid (show P.nnTo l (B b) (k + 1) = (p, q, true) by rw [HST.out]; exact nnSt_eq HD.out hde)
                    have e1 : ((d : Int) == (q : Int)) = true := beq_iff_eq.2 (by omega)
                    clear hde
                    go_wp2_with (first | (go_at_call 190; refine (c_l3Name_l x _ HXL.out).mono ?_; rintro e w' ⟨rfl, rfl⟩) | (go_at_call 191; refine (HXB.out _).mono ?_; rintro e w' ⟨rfl, rfl⟩) | (go_at_call 158; refine (HXX.out _).mono ?_; rintro e w2 ⟨rfl, hb2⟩) | (go_at_call 179; refine (HXO.out _).mono ?_; rintro e w' ⟨rfl, rfl⟩))
                    go_roundw
                    case rel => exact ⟨k + 1, p, q, true, by omega, by go_num, HN.out, rfl, rfl, rfl, hq49, HAN.out, hb.trans (hb2.mono hsz)⟩
                    case measure => simp [intOf]; omega
                  · have HN := Lib.hid (show P.nnTo l (B b) (k + 1) = (p, q, r) by rw [HST.out]; exact nnSt_gt HD.out (by omega))
                    have e1 : ((d : Int) == (q : Int)) = false := beq_eq_false_iff_ne.2 (by omega)
                    clear hde
                    go_wp2_with (first | (go_at_call 190; refine (c_l3Name_l x _ HXL.out).mono ?_; rintro e w' ⟨rfl, rfl⟩) | (go_at_call 191; refine (HXB.out _).mono ?_; rintro e w' ⟨rfl, rfl⟩) | (go_at_call 158; refine (HXX.out _).mono ?_; rintro e w2 ⟨rfl, hb2⟩) | (go_at_call 179; refine (HXO.out _).mono ?_; rintro e w' ⟨rfl, rfl⟩))
                    go_roundw
                    case rel => exact ⟨k + 1, p, q, r, by omega, by go_num, HN.out, rfl, rfl, rfl, hq49, HAN.out, hb.trans (hb2.mono hsz)⟩
                    case measure => simp [intOf]; omega
            · have hkn : k = n := by omega
              have HE := Lib.hid (show P.nnTo l (B b) l.length = (p, q, r) by rw [HL.out, ← hkn]; exact HTO.out)
              have HALL := Lib.hid (show l.all P.nameB = true by have := HAL.out; rwa [List.take_of_length_le (by rw [HL.out]; omega)] at this)
              have HR := Lib.hid (show P.nnOk l (B b) = !r from nn_end HOK.out HALL.out (by rw [HE.out]))
              clear hkn
              cases r with
              | true =>
                go_wp2
                go_ret3
                exact ⟨ret_iib (by rw [(nn_no HR.out).1]) (by rw [(nn_no HR.out).2]) HR.out.symm, hb⟩
              | false =>
                go_wp2
                go_ret3
                exact ⟨ret_iib (by rw [(nn_yes HR.out).1, HE.out]) (by rw [(nn_yes HR.out).2, HE.out]) HR.out.symm, hb⟩
      · have hq : ((b.size : Int) != 48) = true := by rw [bne_iff_ne]; omega
        have HF := Lib.hid (nn_bad0 (l := l) (b := B b) (by unfold P.nnOk0; rw [decide_eq_false (p := (B b).length = 48) (by omega)]; simp))
        clear h hx hl
        go_enter Try.func106, Try.ntmps106
        go_wp2_with (first | (go_at_call 145; refine (c_l1In _ _ _ _).mono ?_; rintro e w' ⟨rfl, rfl⟩) | (go_at_call 149; refine (c_l2Good b _ hbs).mono ?_; rintro e w' ⟨rfl, rfl⟩))
        go_ret3
        exact ⟨ret_iib (by rw [(nn_no HF.out).1]) (by rw [(nn_no HF.out).2]) HF.out.symm, Below.refl _ _⟩
theorem holds_below2 {w w' : World} {A : Option Addr} {l : List (List UInt8)} (h : Holds w A (l.map vs)) (hb : Below w.heap.size w w') : Holds w' A (l.map vs) := fun hne => by
  obtain ⟨g, o, hA, hc⟩ := h hne
  refine ⟨g, o, hA, fun j u hj => ?_⟩
  have h1 := hc j u hj
  rw [hb.cell (p := ⟨g, o + j, Option.none⟩) (World.block_lt_of_cell? w _ h1)]; exact h1

end Go.Proofs.Ytfbanjmooknafaa
