/-
  Contracts of the functions that read names from their bits and give parts of them.
-/
import Derived.Test.YtfbanjmooknafaaNM
import Derived.WalkSmall
namespace Go.Proofs.Ytfbanjmooknafaa
open Go.RowKit
set_option linter.unusedSimpArgs false
set_option linter.unusedVariables false
set_option maxRecDepth 100000

theorem own_cap {w : World} {base n cap g : Nat} {e : TypeId} {xs : List Value} (h : w.ownsRow base e 1 (.slice (some ⟨g, 0, none⟩) n cap) n xs) : n ≤ cap ∧ cap ≤ maxLen := by
  rcases h.2 with ⟨h0, _⟩ | ⟨g', cap', cur, hv, hg, hh, hn, hcap, _⟩
  · cases h0
  · cases hv; exact ⟨hn, hcap⟩
theorem nb_str (s : ByteArray) : ∃ v : ByteArray, bs (P.nbL (B s)) = v ∧ v.size = 48 ∧ B v = P.nbL (B s) := ⟨_, rfl, by rw [bs_size, P.nbL_len], rfl⟩
theorem c_implNameBits (s : ByteArray) (w : World) (hs : s.size ≤ maxLen) : Calls Try.prog 88 #[.string s] w fun e w' => e = .returned (.tuple #[.string (bs (nbS (B s))), .bool (P.nameB (B s))]) ∧ Below w.heap.size w w' := by
  cases hn : P.nameB (B s) with
  | false =>
    have HF := Lib.hid hn
    go_enter Try.func88, Try.ntmps88
    go_wp2_with (go_at_call 90; refine (c_implIsFlightName s _ hs).mono ?_; rintro e w' ⟨rfl, rfl⟩)
    go_ret2
    exact ⟨ret_sb (by unfold nbS; rw [HF.out]; rfl) rfl, Below.refl _ _⟩
  | true =>
    have HT := Lib.hid hn
    go_enter Try.func88, Try.ntmps88
    go_wp2_with (first | (go_at_call 90; refine (c_implIsFlightName s _ hs).mono ?_; rintro e w' ⟨rfl, rfl⟩) | (go_at_call 189; refine (c_nameBits s _ hs).mono ?_; rintro e w1 ⟨rfl, hb⟩))
    go_ret2
    exact ⟨ret_sb (by unfold nbS; rw [HT.out]; rfl) rfl, hb⟩
theorem c_specNameBits (s : ByteArray) (w : World) (hs : s.size ≤ maxLen) : Calls Try.prog 89 #[.string s] w fun e w' => e = .returned (.tuple #[.string (bs (nbS (B s))), .bool (P.nameB (B s))]) ∧ Below w.heap.size w w' := by
  cases hn : P.nameB (B s) with
  | false =>
    have HF := Lib.hid hn
    go_enter Try.func89, Try.ntmps89
    go_wp2_with (go_at_call 190; refine (c_l3Name s _ hs).mono ?_; rintro e w' ⟨rfl, rfl⟩)
    go_ret2
    exact ⟨ret_sb (by unfold nbS; rw [HF.out]; rfl) rfl, Below.refl _ _⟩
  | true =>
    have HT := Lib.hid hn
    go_enter Try.func89, Try.ntmps89
    go_wp2_with (first | (go_at_call 190; refine (c_l3Name s _ hs).mono ?_; rintro e w' ⟨rfl, rfl⟩) | (go_at_call 191; refine (c_l3Bits s _ HT.out).mono ?_; rintro e w1 ⟨rfl, hb⟩))
    go_ret2
    exact ⟨ret_sb (by unfold nbS; rw [HT.out]; rfl) rfl, (hb▸Below.refl _ _)⟩
theorem c_implNamePart (s : ByteArray) (p : Int) (w : World) (hs : s.size ≤ maxLen) : Calls Try.prog 92 #[.string s, .int .i64 p] w fun e w' => e = .returned (.tuple #[.int .i64 (npI (B s) p), .bool (npOk (B s) p)]) ∧ Below w.heap.size w w' := by
  cases hn : P.nameB (B s) with
  | false =>
    have HF := Lib.hid (show npOk (B s) p = false by unfold npOk; rw [hn]; rfl)
    go_enter Try.func92, Try.ntmps92
    go_wp2_with (go_at_call 90; refine (c_implIsFlightName s _ hs).mono ?_; rintro e w' ⟨rfl, rfl⟩)
    go_ret2
    exact ⟨ret_ib (by unfold npI; rw [HF.out]; rfl) HF.out.symm, Below.refl _ _⟩
  | true =>
    cases hp : P.inB p 0 1 with
    | false =>
      have HF := Lib.hid (show npOk (B s) p = false by unfold npOk; rw [hn, hp]; rfl)
      go_enter Try.func92, Try.ntmps92
      go_wp2_with (first | (go_at_call 90; refine (c_implIsFlightName s _ hs).mono ?_; rintro e w' ⟨rfl, rfl⟩) | (go_at_call 141; refine (c_within _ _ _ _).mono ?_; rintro e w' ⟨rfl, rfl⟩))
      go_ret2
      exact ⟨ret_ib (by unfold npI; rw [HF.out]; rfl) HF.out.symm, Below.refl _ _⟩
    | true =>
      have HT := Lib.hid (show npOk (B s) p = true by unfold npOk; rw [hn, hp]; rfl)
      have HN := Lib.hid hn
      obtain ⟨p0, p1⟩ := P.inB_iff.1 hp
      obtain ⟨v, hv, hvs, hvB⟩ := nb_str s
      have HV := Lib.hid hv
      have hp01 : p = 0 ∨ p = 1 := by omega
      rcases hp01 with rfl | rfl
      · obtain ⟨u, hu⟩ : ∃ u, v.extract 0 24 = u := ⟨_, rfl⟩
        have hBu : B u = ((P.nbL (B s)).drop 0).take 24 := by rw [← hu, B_ext, hvB]
        have hus : u.size ≤ 30 := by rw [← B_len, hBu, List.length_take, List.length_drop, P.nbL_len]; omega
        have HB := Lib.hid (show (B u).all P.bitB = true by rw [hBu]; exact P.all_take (P.all_drop (P.nbL_bits _) _) _)
        have HU := Lib.hid hBu
        clear hBu hvB hv
        go_enter Try.func92, Try.ntmps92
        go_wp2_with (first | (go_at_call 90; refine (c_implIsFlightName s _ hs).mono ?_; rintro e w' ⟨rfl, rfl⟩) | (go_at_call 141; refine (c_within _ _ _ _).mono ?_; rintro e w' ⟨rfl, rfl⟩) | (go_at_call 189; refine (c_nameBits s _ hs).mono ?_; rintro e w1 ⟨rfl, hb⟩; rw [HV.out]) | (go_at_call 166; refine (c_numberOf u _ hus HB.out).mono ?_; rintro e w' ⟨rfl, rfl⟩))
        go_ret2
        exact ⟨ret_ib (by unfold npI; rw [HT.out, HU.out]; rfl) HT.out.symm, hb⟩
      · obtain ⟨u, hu⟩ : ∃ u, v.extract 24 48 = u := ⟨_, rfl⟩
        have hBu : B u = ((P.nbL (B s)).drop 24).take 24 := by rw [← hu, B_ext, hvB]
        have hus : u.size ≤ 30 := by rw [← B_len, hBu, List.length_take, List.length_drop, P.nbL_len]; omega
        have HB := Lib.hid (show (B u).all P.bitB = true by rw [hBu]; exact P.all_take (P.all_drop (P.nbL_bits _) _) _)
        have HU := Lib.hid hBu
        clear hBu hvB hv
        go_enter Try.func92, Try.ntmps92
        go_wp2_with (first | (go_at_call 90; refine (c_implIsFlightName s _ hs).mono ?_; rintro e w' ⟨rfl, rfl⟩) | (go_at_call 141; refine (c_within _ _ _ _).mono ?_; rintro e w' ⟨rfl, rfl⟩) | (go_at_call 189; refine (c_nameBits s _ hs).mono ?_; rintro e w1 ⟨rfl, hb⟩; rw [HV.out]) | (go_at_call 166; refine (c_numberOf u _ hus HB.out).mono ?_; rintro e w' ⟨rfl, rfl⟩))
        go_ret2
        exact ⟨ret_ib (by unfold npI; rw [HT.out, HU.out]; rfl) HT.out.symm, hb⟩
theorem c_specNamePart (s : ByteArray) (p : Int) (w : World) (hs : s.size ≤ maxLen) : Calls Try.prog 111 #[.string s, .int .i64 p] w fun e w' => e = .returned (.tuple #[.int .i64 (npI (B s) p), .bool (npOk (B s) p)]) ∧ Below w.heap.size w w' := by
  cases hn : P.nameB (B s) with
  | false =>
    have HF := Lib.hid (show npOk (B s) p = false by unfold npOk; rw [hn]; rfl)
    go_enter Try.func111, Try.ntmps111
    go_wp2_with (go_at_call 190; refine (c_l3Name s _ hs).mono ?_; rintro e w' ⟨rfl, rfl⟩)
    go_ret2
    exact ⟨ret_ib (by unfold npI; rw [HF.out]; rfl) HF.out.symm, Below.refl _ _⟩
  | true =>
    cases hp : P.inB p 0 1 with
    | false =>
      have HF := Lib.hid (show npOk (B s) p = false by unfold npOk; rw [hn, hp]; rfl)
      go_enter Try.func111, Try.ntmps111
      go_wp2_with (first | (go_at_call 190; refine (c_l3Name s _ hs).mono ?_; rintro e w' ⟨rfl, rfl⟩) | (go_at_call 145; refine (c_l1In _ _ _ _).mono ?_; rintro e w' ⟨rfl, rfl⟩))
      go_ret2
      exact ⟨ret_ib (by unfold npI; rw [HF.out]; rfl) HF.out.symm, Below.refl _ _⟩
    | true =>
      have HT := Lib.hid (show npOk (B s) p = true by unfold npOk; rw [hn, hp]; rfl)
      have HN := Lib.hid hn
      obtain ⟨p0, p1⟩ := P.inB_iff.1 hp
      obtain ⟨v, hv, hvs, hvB⟩ := nb_str s
      have HV := Lib.hid hv
      have hp01 : p = 0 ∨ p = 1 := by omega
      rcases hp01 with rfl | rfl
      · obtain ⟨u, hu⟩ : ∃ u, v.extract 0 24 = u := ⟨_, rfl⟩
        have hBu : B u = ((P.nbL (B s)).drop 0).take 24 := by rw [← hu, B_ext, hvB]
        have hus : u.size ≤ 30 := by rw [← B_len, hBu, List.length_take, List.length_drop, P.nbL_len]; omega
        have HB := Lib.hid (show (B u).all P.bitB = true by rw [hBu]; exact P.all_take (P.all_drop (P.nbL_bits _) _) _)
        have HU := Lib.hid hBu
        clear hBu hvB hv
        go_enter Try.func111, Try.ntmps111
        go_wp2_with (first | (go_at_call 190; refine (c_l3Name s _ hs).mono ?_; rintro e w' ⟨rfl, rfl⟩) | (go_at_call 145; refine (c_l1In _ _ _ _).mono ?_; rintro e w' ⟨rfl, rfl⟩) | (go_at_call 191; refine (c_l3Bits s _ HN.out).mono ?_; rintro e w1 ⟨rfl, hb⟩; rw [HV.out]) | (go_at_call 173; refine (c_l2Number u _ hus HB.out).mono ?_; rintro e w' ⟨rfl, rfl⟩))
        go_ret2
        exact ⟨ret_ib (by unfold npI; rw [HT.out, HU.out]; rfl) HT.out.symm, (hb▸Below.refl _ _)⟩
      · obtain ⟨u, hu⟩ : ∃ u, v.extract 24 48 = u := ⟨_, rfl⟩
        have hBu : B u = ((P.nbL (B s)).drop 24).take 24 := by rw [← hu, B_ext, hvB]
        have hus : u.size ≤ 30 := by rw [← B_len, hBu, List.length_take, List.length_drop, P.nbL_len]; omega
        have HB := Lib.hid (show (B u).all P.bitB = true by rw [hBu]; exact P.all_take (P.all_drop (P.nbL_bits _) _) _)
        have HU := Lib.hid hBu
        clear hBu hvB hv
        go_enter Try.func111, Try.ntmps111
        go_wp2_with (first | (go_at_call 190; refine (c_l3Name s _ hs).mono ?_; rintro e w' ⟨rfl, rfl⟩) | (go_at_call 145; refine (c_l1In _ _ _ _).mono ?_; rintro e w' ⟨rfl, rfl⟩) | (go_at_call 191; refine (c_l3Bits s _ HN.out).mono ?_; rintro e w1 ⟨rfl, hb⟩; rw [HV.out]) | (go_at_call 173; refine (c_l2Number u _ hus HB.out).mono ?_; rintro e w' ⟨rfl, rfl⟩))
        go_ret2
        exact ⟨ret_ib (by unfold npI; rw [HT.out, HU.out]; rfl) HT.out.symm, (hb▸Below.refl _ _)⟩
/-- the name of a text of bits -/
def pbOk (l : List UInt8) : Bool := P.isBits l && decide (l.length = 48) && P.pnOk l
def pbS (l : List UInt8) : List UInt8 := if pbOk l = true then P.pnName l else []
theorem pnOk_bad {l : List UInt8} {k : Nat} (hk : k < 8) (h : P.ofCodeB (P.grp l k) = false) : P.pnOk l = false := by
  unfold P.pnOk
  cases ho : P.okTo l 8 with
  | false => rfl
  | true => rw [P.okTo_at.1 ho k hk] at h; cases h
theorem okTo_snoc {l : List UInt8} {k : Nat} (h : P.okTo l k = true) (h2 : P.ofCodeB (P.grp l k) = true) : P.okTo l (k + 1) = true := by rw [P.okTo, h, h2]; rfl
theorem own_pos {w : World} {base n : Nat} {e : TypeId} {v : Value} {xs : List Value} (h : w.ownsRow base e 1 v n xs) (hn : n = 8) : ∃ g cap, v = .slice (some ⟨g, 0, none⟩) 8 cap := by
  subst hn
  obtain ⟨g, cap, h1, _⟩ := own_form h (by omega)
  exact ⟨g, cap, h1⟩
theorem strip_cut {l : List UInt8} {n : Nat} (hn : n < l.length) (h : l[n] = 32) : P.strip (l.take (n + 1)) = P.strip (l.take n) := by
  rw [List.take_succ_eq_append_getElem hn, h, P.strip_space]
theorem strip_stay {l : List UInt8} {n : Nat} (hn : n < l.length) (h : l[n] ≠ 32) : P.strip (l.take (n + 1)) = l.take (n + 1) := by
  rw [List.take_succ_eq_append_getElem hn, P.strip_other _ h]
theorem ub_cut {l : List UInt8} {n : Nat} (hn : n < l.length) : ub (l.take (n + 1)) = ub (l.take n) ++ [.int .u8 ((l[n]).toNat : Int)] := by
  rw [List.take_succ_eq_append_getElem hn, ub_app]; rfl
theorem c_implParseNameBits (s : ByteArray) (w : World) (hs : s.size ≤ maxLen) : Calls Try.prog 91 #[.string s] w fun e w' => e = .returned (.tuple #[.string (bs (pbS (B s))), .bool (pbOk (B s))]) ∧ Below w.heap.size w w' := by
  obtain ⟨i0, hi, hz0, hz1, hz2⟩ := info_parts info_u8
  have hl := B_len s
  have hs' := hs
  unfold maxLen at hs'
  cases hb : P.isBits (B s) with
  | false =>
    have HF := Lib.hid (show pbOk (B s) = false by unfold pbOk; rw [hb]; rfl)
    go_enter Try.func91, Try.ntmps91
    go_wp2_with (go_at_call 68; refine (c_implIsBits s _ hs).mono ?_; rintro e w' ⟨rfl, rfl⟩)
    go_ret2
    exact ⟨ret_sb (by unfold pbS; rw [HF.out]; rfl) HF.out.symm, Below.refl _ _⟩
  | true =>
    by_cases h48 : s.size = 48
    · have hq : ((s.size : Int) != 48) = false := by rw [bne_eq_false_iff_eq]; omega
      have HB := Lib.hid (P.isBits_iff.1 hb).2
      have HOK := Lib.hid (show pbOk (B s) = P.pnOk (B s) by unfold pbOk; rw [hb, decide_eq_true (by omega)]; rfl)
      go_enter Try.func91, Try.ntmps91
      go_wp2_with (go_at_call 68; refine (c_implIsBits s _ hs).mono ?_; rintro e w' ⟨rfl, rfl⟩)
      go_loopw [4, 5] (fun v i wr => ∃ k : Nat, k ≤ 8 ∧ i = .int .i64 ((6 * k : Nat) : Int) ∧ P.okTo (B s) k = true ∧ wr.ownsRow w.heap.size 5 1 v k (ub (P.chTo (B s) k)) ∧ Below w.heap.size w wr) (fun _ i _ => 48 - (intOf i).toNat)
      case atStart => exact ⟨0, by omega, rfl, rfl, World.ownsRow_nil _ _ _ _, Below.refl _ _⟩
      case round =>
        obtain ⟨k, hk, rfl, hok, hown, hbl⟩ := hrel
        have hsz := hbl.size
        have HO := Lib.hid hok
        clear hok
        by_cases hlt : k < 8
        · obtain ⟨u, hu⟩ : ∃ u, s.extract (6 * k) (6 * k + 6) = u := ⟨_, rfl⟩
          have hBu : B u = ((B s).drop (6 * k)).take 6 := by rw [← hu, B_ext]; congr 1; omega
          have hul : u.size ≤ 30 := by rw [← B_len, hBu, List.length_take]; omega
          have HBB := Lib.hid (show (B u).all P.bitB = true by rw [hBu]; exact P.all_take (P.all_drop HB.out _) _)
          obtain ⟨m, hm⟩ : ∃ m, P.grp (B s) k = m := ⟨_, rfl⟩
          have HM := Lib.hid (show P.numL (B u) = m by rw [hBu]; exact hm)
          have hn1 : (((6 * k : Nat) : Int) + 6).toNat = 6 * k + 6 := by omega
          cases hoc : P.ofCodeB m with
          | false =>
            have HF := Lib.hid (show pbOk (B s) = false by rw [HOK.out]; exact pnOk_bad hlt (by rw [hm]; exact hoc))
            clear hm hBu
            go_wp2_with (first | (go_at_call 166; refine (c_numberOf u _ hul HBB.out).mono ?_; rintro e w' ⟨rfl, rfl⟩; rw [HM.out]) | (go_at_call 99; refine (c_implLetterOf _ _).mono ?_; rintro e w' ⟨rfl, rfl⟩))
            go_ret2
            exact ⟨ret_sb (by unfold pbS; rw [HF.out]; rfl) HF.out.symm, hbl⟩
          | true =>
            have HN := Lib.hid (okTo_snoc HO.out (by rw [hm]; exact hoc))
            have HC := Lib.hid (show P.chTo (B s) (k + 1) = P.chTo (B s) k ++ [P.ofCode m] by rw [P.chTo, hm])
            clear hm hBu
            go_wp2_with (first | (go_at_call 166; refine (c_numberOf u _ hul HBB.out).mono ?_; rintro e w' ⟨rfl, rfl⟩; rw [HM.out]) | (go_at_call 99; refine (c_implLetterOf _ _).mono ?_; rintro e w' ⟨rfl, rfl⟩) | (at_builtin; refine wpList_append_own _ rfl _ _ 22 rfl w.heap.size 5 i0 (.int .u8 0) 1 1 Try.underlying22 hi hz0 hz1 hz2 rfl (by decide) _ _ _ rfl (hown.alloc _) ⟨wr.heap.size, 0, none⟩ 1 1 [.int .u8 ((P.ofCode m).toNat : Int)] rfl rfl (one_new _ _ _) ?pa2 ?pa3 ?pa4 ?pa5 ?_))
            case pa2 => intro u hu; simp at hu; subst hu; rfl
            case pa3 => unfold maxLen; omega
            case pa4 => omega
            case pa5 => simp; omega
            intro v1 w1 hown1 hg1 _
            have hb1 := below_app hbl hsz hown hg1
            have HOW := Lib.hid (show w1.ownsRow w.heap.size 5 1 v1 (k + 1) (ub (P.chTo (B s) (k + 1))) by
              rw [HC.out, ub_app]; exact hown1)
            clear hown1 hg1 hown hbl
            go_wp2
            go_roundw
            case rel => exact ⟨k + 1, by omega, by go_num, HN.out, HOW.out, hb1⟩
            case measure => simp [intOf]; omega
        · have h8 : k = 8 := by omega
          subst h8
          have hf := own_pos hown rfl
          obtain ⟨g, cap, rfl⟩ := hf
          have hcap := own_cap hown
          unfold maxLen at hcap
          obtain ⟨hcap1, hcap2⟩ := hcap
          obtain ⟨L, hL⟩ : ∃ L, P.chTo (B s) 8 = L := ⟨_, rfl⟩
          have hLl : L.length = 8 := by rw [← hL, P.chTo_len]
          rw [hL] at hown
          have HL := Lib.hid hL
          have HOW := Lib.hid (show wr.ownsRow w.heap.size 5 1 (.slice (some ⟨g, 0, none⟩) 8 cap) 8 (ub (L.take 8)) by rw [List.take_of_length_le (by omega)]; exact hown)
          clear hL hown
          go_wp2
          go_loopw [4] (fun v wr => ∃ n : Nat, n ≤ 8 ∧ v = .slice (some ⟨g, 0, none⟩) n cap ∧ P.strip (L.take n) = P.strip L ∧ wr.ownsRow w.heap.size 5 1 v n (ub (L.take n)) ∧ Below w.heap.size w wr) (fun v _ => match v with | .slice _ n _ => n | _ => 0)
          case atStart => exact ⟨8, by omega, rfl, by rw [List.take_of_length_le (by omega)], HOW.out, hbl⟩
          case round =>
            obtain ⟨n, hn, rfl, hst, hown, hb1⟩ := hrel
            have HST := Lib.hid hst
            have HOW2 := Lib.hid hown
            clear hst HOW
            cases n with
            | zero =>
              have hcv := run_str_row (P := Try.prog) (l := L.take 0) 22 9 5 Try.underlying22 Try.underlying5 Try.underlying9 hown
              have HS := Lib.hid (show P.pnName (B s) = L.take 0 by unfold P.pnName; rw [HL.out, ← HST.out]; rfl)
              clear hown
              obtain ⟨z, hz⟩ : ∃ z, bs (L.take 0) = z := ⟨_, rfl⟩
              have hBz : B z = L.take 0 := by rw [← hz]; rfl
              rw [hz] at hcv
              have HZ := Lib.hid (show B z = P.pnName (B s) by rw [hBz, HS.out])
              have hzs : z.size ≤ maxLen := by rw [← B_len, hBz, List.length_take]; unfold maxLen; omega
              clear hBz hz
              cases hnm : P.nameB (B z) with
              | false =>
                have HF := Lib.hid (show pbOk (B s) = false by rw [HOK.out]; unfold P.pnOk; rw [HO.out, Bool.true_and]; have := HZ.out; unfold P.pnName at this; rw [← this]; exact hnm)
                go_wp2_with (go_at_call 90; refine (c_implIsFlightName z _ hzs).mono ?_; rintro e w' ⟨rfl, rfl⟩)
                go_ret2
                exact ⟨ret_sb (by unfold pbS; rw [HF.out]; rfl) HF.out.symm, hb1⟩
              | true =>
                have HT := Lib.hid (show pbOk (B s) = true by rw [HOK.out]; unfold P.pnOk; rw [HO.out, Bool.true_and]; have := HZ.out; unfold P.pnName at this; rw [← this]; exact hnm)
                go_wp2_with (go_at_call 90; refine (c_implIsFlightName z _ hzs).mono ?_; rintro e w' ⟨rfl, rfl⟩)
                go_ret2
                exact ⟨ret_sb (by unfold pbS; rw [HT.out, HZ.out]; rfl) HT.out.symm, hb1⟩
            | succ m =>
              have hml : m < L.length := by omega
              have hcell : wr.cell? ⟨g, m, none⟩ = some (.int .u8 ((L[m]).toNat : Int)) := by
                rw [hown.cellAt m (by omega), ub_cut hml, List.getElem?_append_right (by rw [ub_len, List.length_take]; omega), ub_len, List.length_take, Nat.min_eq_left (by omega), Nat.sub_self]; rfl
              have hfz := hown.frozenAt m
              have hL8 := (L[m]).toNat_lt
              have hix : (((m + 1 : Nat) : Int) - 1).toNat = m := by omega
              have h0 : 0 ≤ ((m + 1 : Nat) : Int) - 1 := by omega
              have hsz1 := hb1.size
              by_cases h32 : L[m] = 32
              · have e1 : (((L[m]).toNat : Int) == 32) = true := beq_iff_eq.2 (by rw [h32]; rfl)
                have hpop := ownsRow_pop (by rw [ub_len, List.length_take]; omega) (show wr.ownsRow w.heap.size 5 1 (.slice (some ⟨g, 0, none⟩) (m + 1) cap) (m + 1) (ub (L.take m) ++ [.int .u8 ((L[m]).toNat : Int)]) by rw [← ub_cut hml]; exact hown)
                have HPOP := Lib.hid hpop
                have HS := Lib.hid (show P.strip (L.take m) = P.strip L by rw [← strip_cut hml h32]; exact HST.out)
                clear hown hpop h32
                go_wp2
                go_roundw
                case rel => exact ⟨m, by omega, by go_num, HS.out, by first | exact HPOP.out | simpa using HPOP.out, hb1⟩
                case measure => simp
              · have e1 : (((L[m]).toNat : Int) == 32) = false := beq_eq_false_iff_ne.2 (fun e => h32 (UInt8.toNat_inj.1 (by show _ = 32; omega)))
                have hcv := run_str_row (P := Try.prog) (l := L.take (m + 1)) 22 9 5 Try.underlying22 Try.underlying5 Try.underlying9 hown
                have HS := Lib.hid (show P.pnName (B s) = L.take (m + 1) by unfold P.pnName; rw [HL.out, ← HST.out]; exact strip_stay hml h32)
                clear hown h32
                obtain ⟨z, hz⟩ : ∃ z, bs (L.take (m + 1)) = z := ⟨_, rfl⟩
                have hBz : B z = L.take (m + 1) := by rw [← hz]; rfl
                rw [hz] at hcv
                have HZ := Lib.hid (show B z = P.pnName (B s) by rw [hBz, HS.out])
                have hzs : z.size ≤ maxLen := by rw [← B_len, hBz, List.length_take]; unfold maxLen; omega
                clear hBz hz
                cases hnm : P.nameB (B z) with
                | false =>
                  have HF := Lib.hid (show pbOk (B s) = false by rw [HOK.out]; unfold P.pnOk; rw [HO.out, Bool.true_and]; have := HZ.out; unfold P.pnName at this; rw [← this]; exact hnm)
                  go_wp2_with (go_at_call 90; refine (c_implIsFlightName z _ hzs).mono ?_; rintro e w' ⟨rfl, rfl⟩)
                  go_ret2
                  exact ⟨ret_sb (by unfold pbS; rw [HF.out]; rfl) HF.out.symm, hb1⟩
                | true =>
                  have HT := Lib.hid (show pbOk (B s) = true by rw [HOK.out]; unfold P.pnOk; rw [HO.out, Bool.true_and]; have := HZ.out; unfold P.pnName at this; rw [← this]; exact hnm)
                  go_wp2_with (go_at_call 90; refine (c_implIsFlightName z _ hzs).mono ?_; rintro e w' ⟨rfl, rfl⟩)
                  go_ret2
                  exact ⟨ret_sb (by unfold pbS; rw [HT.out, HZ.out]; rfl) HT.out.symm, hb1⟩
    · have hq : ((s.size : Int) != 48) = true := by rw [bne_iff_ne]; omega
      have HF := Lib.hid (show pbOk (B s) = false by unfold pbOk; rw [hb, decide_eq_false (by omega)]; rfl)
      go_enter Try.func91, Try.ntmps91
      go_wp2_with (go_at_call 68; refine (c_implIsBits s _ hs).mono ?_; rintro e w' ⟨rfl, rfl⟩)
      go_ret2
      exact ⟨ret_sb (by unfold pbS; rw [HF.out]; rfl) HF.out.symm, Below.refl _ _⟩
theorem gaTo_len (l : List UInt8) (k : Nat) : (P.gaTo l k).length ≤ k := by
  rw [P.gaTo_filter]
  exact Nat.le_trans (List.length_filter_le _ _) (by rw [P.chTo_len]; exact Nat.le_refl _)
theorem gaTo_keep {l : List UInt8} {k : Nat} {c : UInt8} (hc : P.ofCode (P.grp l k) = c) (h0 : 0 < c.toNat) (h32 : c.toNat ≠ 32) : P.gaTo l (k + 1) = P.gaTo l k ++ [c] := by
  rw [P.gaTo, hc, if_pos ⟨fun e => by rw [e] at h0; exact absurd h0 (by decide), fun e => h32 (by rw [e]; rfl)⟩]
theorem gaTo_drop {l : List UInt8} {k : Nat} {c : UInt8} (hc : P.ofCode (P.grp l k) = c) (h0 : c.toNat = 0 ∨ c.toNat = 32) : P.gaTo l (k + 1) = P.gaTo l k := by
  rw [P.gaTo, hc, if_neg]
  rintro ⟨h1, h2⟩
  rcases h0 with h0 | h0
  · exact h1 (UInt8.toNat_inj.1 h0)
  · exact h2 (UInt8.toNat_inj.1 h0)
theorem c_specParseNameBits (s : ByteArray) (w : World) (hs : s.size ≤ maxLen) : Calls Try.prog 95 #[.string s] w fun e w' => e = .returned (.tuple #[.string (bs (pbS (B s))), .bool (pbOk (B s))]) ∧ Below w.heap.size w w' := by
  have hl := B_len s
  have hs' := hs
  unfold maxLen at hs'
  cases hb : P.isBits (B s) with
  | false =>
    have HF := Lib.hid (show pbOk (B s) = false by unfold pbOk; rw [hb]; rfl)
    go_enter Try.func95, Try.ntmps95
    go_wp2_with (go_at_call 149; refine (c_l2Good s _ hs).mono ?_; rintro e w' ⟨rfl, rfl⟩)
    go_ret2
    exact ⟨ret_sb (by unfold pbS; rw [HF.out]; rfl) HF.out.symm, Below.refl _ _⟩
  | true =>
    by_cases h48 : s.size = 48
    · have hq : ((s.size : Int) != 48) = false := by rw [bne_eq_false_iff_eq]; omega
      have HB := Lib.hid (P.isBits_iff.1 hb).2
      have HOK := Lib.hid (show pbOk (B s) = P.pnOk (B s) by unfold pbOk; rw [hb, decide_eq_true (by omega)]; rfl)
      have HAG := Lib.hid (P.pn_agree HB.out (by omega))
      go_enter Try.func95, Try.ntmps95
      go_wp2_with (go_at_call 149; refine (c_l2Good s _ hs).mono ?_; rintro e w' ⟨rfl, rfl⟩)
      go_loopw [4, 5] (fun v i wr => ∃ (k : Nat) (l : List UInt8), k ≤ 8 ∧ i = .int .i64 ((6 * k : Nat) : Int) ∧ v = .string (bs l) ∧ l = P.gaTo (B s) k ∧ Below w.heap.size w wr) (fun _ i _ => 48 - (intOf i).toNat)
      case atStart => exact ⟨0, [], by omega, rfl, rfl, rfl, Below.refl _ _⟩
      case round =>
        obtain ⟨k, l, hk, rfl, rfl, hle, hbl⟩ := hrel
        have hsz := hbl.size
        have hll : l.length ≤ 8 := by have := gaTo_len (B s) k; rw [hle]; omega
        have HLE := Lib.hid hle
        clear hle
        by_cases hlt : k < 8
        · obtain ⟨u, hu⟩ : ∃ u, s.extract (6 * k) (6 * k + 6) = u := ⟨_, rfl⟩
          have hBu : B u = ((B s).drop (6 * k)).take 6 := by rw [← hu, B_ext]; congr 1; omega
          have hul : u.size ≤ 30 := by rw [← B_len, hBu, List.length_take]; omega
          have HBB := Lib.hid (show (B u).all P.bitB = true by rw [hBu]; exact P.all_take (P.all_drop HB.out _) _)
          obtain ⟨m, hm⟩ : ∃ m, P.grp (B s) k = m := ⟨_, rfl⟩
          have HM := Lib.hid (show P.numL (B u) = m by rw [hBu]; exact hm)
          have hn1 : (((6 * k : Nat) : Int) + 6).toNat = 6 * k + 6 := by omega
          obtain ⟨c, hc⟩ : ∃ c, P.ofCode (m : Int) = c := ⟨_, rfl⟩
          have HC := Lib.hid hc
          have HGC := Lib.hid (show P.ofCode (P.grp (B s) k) = c by rw [hm]; exact hc)
          have hc256 := c.toNat_lt
          have hone := fun W => run_str_one (P := Try.prog) 22 9 5 Try.underlying22 Try.underlying5 Try.underlying9 W (c.toNat : Int)
          have hcu : UInt8.ofNat ((c.toNat : Int)).toNat = c := by simp
          rw [hcu] at hone
          have hadd : ∀ W, (Op.stringOp .add (bs l) (bs [c])).run Try.prog W = .ok (.string (bs (l ++ [c]))) W := fun W => run_add W _ _ (by simp; omega)
          clear hc hm hBu hcu
          by_cases h0 : 0 < c.toNat
          · by_cases h32 : c.toNat = 32
            · have e1 : ((c.toNat : Int) != 32) = false := by rw [bne_eq_false_iff_eq]; omega
              have HN := Lib.hid (show l = P.gaTo (B s) (k + 1) by rw [gaTo_drop HGC.out (.inr h32)]; exact HLE.out)
              clear h32
              go_wp2_with (first | (go_at_call 173; refine (c_l2Number u _ hul HBB.out).mono ?_; rintro e w' ⟨rfl, rfl⟩; rw [HM.out]) | (go_at_call 195; refine (c_l3Byte _ _).mono ?_; rintro e w' ⟨rfl, rfl⟩; rw [HC.out]))
              go_roundw
              case rel => exact ⟨k + 1, _, by omega, by go_num, rfl, HN.out, hbl⟩
              case measure => simp [intOf]; omega
            · have e1 : ((c.toNat : Int) != 32) = true := by rw [bne_iff_ne]; omega
              have HN := Lib.hid (show l ++ [c] = P.gaTo (B s) (k + 1) by rw [gaTo_keep HGC.out h0 h32, ← HLE.out])
              clear h32
              go_wp2_with (first | (go_at_call 173; refine (c_l2Number u _ hul HBB.out).mono ?_; rintro e w' ⟨rfl, rfl⟩; rw [HM.out]) | (go_at_call 195; refine (c_l3Byte _ _).mono ?_; rintro e w' ⟨rfl, rfl⟩; rw [HC.out]))
              go_roundw
              case rel => exact ⟨k + 1, _, by omega, by go_num, rfl, HN.out, hbl.alloc hsz _⟩
              case measure => simp [intOf]; omega
          · have HN := Lib.hid (show l = P.gaTo (B s) (k + 1) by rw [gaTo_drop HGC.out (.inl (by omega))]; exact HLE.out)
            go_wp2_with (first | (go_at_call 173; refine (c_l2Number u _ hul HBB.out).mono ?_; rintro e w' ⟨rfl, rfl⟩; rw [HM.out]) | (go_at_call 195; refine (c_l3Byte _ _).mono ?_; rintro e w' ⟨rfl, rfl⟩; rw [HC.out]))
            go_roundw
            case rel => exact ⟨k + 1, _, by omega, by go_num, rfl, HN.out, hbl⟩
            case measure => simp [intOf]; omega
        · have h8 : k = 8 := by omega
          subst h8
          obtain ⟨z, hz⟩ : ∃ z, bs l = z := ⟨_, rfl⟩
          have hBz : B z = l := by rw [← hz]; rfl
          have hzs : z.size ≤ maxLen := by rw [← B_len, hBz]; unfold maxLen; omega
          have HZ := Lib.hid (show B z = P.gaTo (B s) 8 by rw [hBz, HLE.out])
          rw [hz]
          clear hz hBz
          cases hnm : P.nameB (B z) with
          | false =>
            have HF := Lib.hid (show pbOk (B s) = false by
              rw [HOK.out, Bool.eq_false_iff]; intro e
              have := (HAG.out.1 e).1
              rw [← HZ.out, hnm] at this; cases this)
            go_wp2_with (go_at_call 190; refine (c_l3Name z _ hzs).mono ?_; rintro e w' ⟨rfl, rfl⟩)
            go_ret2
            exact ⟨ret_sb (by unfold pbS; rw [HF.out]; rfl) HF.out.symm, hbl⟩
          | true =>
            have HNM := Lib.hid hnm
            by_cases he : P.nbL (B z) = B s
            · have HT := Lib.hid (show pbOk (B s) = true by
                rw [HOK.out]; exact HAG.out.2 (by rw [← HZ.out]; exact hnm) (by rw [← HZ.out]; exact he))
              have HR := Lib.hid (show B z = P.pnName (B s) by rw [HZ.out]; exact (HAG.out.1 (by rw [← HOK.out]; exact HT.out)).2.2)
              have hcmp := cmp_eq (a := bs (P.nbL (B z))) (b := s) he
              clear he
              go_wp2_with (first | (go_at_call 190; refine (c_l3Name z _ hzs).mono ?_; rintro e w' ⟨rfl, rfl⟩) | (go_at_call 191; refine (c_l3Bits z _ HNM.out).mono ?_; rintro e w' ⟨rfl, rfl⟩))
              go_ret2
              exact ⟨ret_sb (by unfold pbS; rw [HT.out, HR.out]; rfl) HT.out.symm, hbl⟩
            · have HF := Lib.hid (show pbOk (B s) = false by
                rw [HOK.out, Bool.eq_false_iff]; intro e
                have := (HAG.out.1 e).2.1
                rw [← HZ.out] at this; exact he this)
              have hcmp := cmp_ne (a := bs (P.nbL (B z))) (b := s) he
              clear he
              go_wp2_with (first | (go_at_call 190; refine (c_l3Name z _ hzs).mono ?_; rintro e w' ⟨rfl, rfl⟩) | (go_at_call 191; refine (c_l3Bits z _ HNM.out).mono ?_; rintro e w' ⟨rfl, rfl⟩))
              go_ret2
              exact ⟨ret_sb (by unfold pbS; rw [HF.out]; rfl) HF.out.symm, hbl⟩
    · have hq : ((s.size : Int) != 48) = true := by rw [bne_iff_ne]; omega
      have HF := Lib.hid (show pbOk (B s) = false by unfold pbOk; rw [hb, decide_eq_false (by omega)]; rfl)
      go_enter Try.func95, Try.ntmps95
      go_wp2_with (go_at_call 149; refine (c_l2Good s _ hs).mono ?_; rintro e w' ⟨rfl, rfl⟩)
      go_ret2
      exact ⟨ret_sb (by unfold pbS; rw [HF.out]; rfl) HF.out.symm, Below.refl _ _⟩
end Go.Proofs.Ytfbanjmooknafaa
