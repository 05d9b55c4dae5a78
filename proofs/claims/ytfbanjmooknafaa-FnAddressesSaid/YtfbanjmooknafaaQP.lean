/-
  Contracts of PatternOf, and the walk of its law.
-/
import Derived.Test.YtfbanjmooknafaaQR
namespace Go.Proofs.Ytfbanjmooknafaa
open Go.RowKit
set_option linter.unusedSimpArgs false
set_option linter.unusedVariables false
set_option maxRecDepth 100000

def ptOk (n i : Int) : Bool := P.inB n 12 64 && P.inB i 0 (n - 1)
def ptS (n i : Int) : List UInt8 := if ptOk n i = true then P.bitsL (P.synN (P.single n.toNat i.toNat)) 12 else []
theorem pt_no {n i : Int} (h : ptOk n i = false) : ptS n i = [] := by unfold ptS; rw [h]; rfl
theorem pt_yes {n i : Nat} (h : ptOk n i = true) : ptS n i = P.bitsL (P.synN (P.single n i)) 12 := by unfold ptS; rw [h]; rfl
theorem single_at {n i k : Nat} (hk : k < n) : (P.single n i)[k]'(by rw [P.single_len]; exact hk) = if k = i then 49 else 48 := by
  unfold P.single P.zeros
  rw [List.getElem_set]
  by_cases h : i = k
  · rw [if_pos h, if_pos h.symm]
  · rw [if_neg h, if_neg (fun e => h e.symm), List.getElem_replicate]
theorem single_step {n i k : Nat} (hk : k < n) : (P.single n i).take (k + 1) = (P.single n i).take k ++ [if k = i then 49 else 48] := by
  rw [List.take_succ_eq_append_getElem (by rw [P.single_len]; exact hk), single_at hk]
theorem single_all {n i k : Nat} (hk : ¬ k < n) : (P.single n i).take k = P.single n i := List.take_of_length_le (by rw [P.single_len]; omega)
theorem flip_zeros {n i : Nat} (hi : i < n) : P.flipL (P.zeros n) i = P.single n i := by
  unfold P.flipL P.single P.zeros
  rw [List.getElem?_replicate, if_pos hi, if_neg (by decide)]
theorem c_l4Single (n i : Nat) (w : World) (hn : n ≤ 64) (hi : i ≤ 64) : Calls Try.prog 139 #[.int .i64 n, .int .i64 i] w fun e w' => e = .returned (.string (bs (P.single n i))) ∧ w = w' := by
  go_enter Try.func139, Try.ntmps139
  go_wp2
  go_loop [5, 6] (fun v j => ∃ k : Nat, k ≤ n ∧ j = .int .i64 k ∧ v = .string (bs ((P.single n i).take k))) (fun _ j => n - (intOf j).toNat)
  case atStart => exact ⟨0, Nat.zero_le _, rfl, rfl⟩
  case round =>
    obtain ⟨k, hk, rfl, rfl⟩ := hrel
    by_cases hlt : k < n
    · have hst := single_step (i := i) hlt
      have hlen : ((P.single n i).take k).length ≤ 64 := by rw [List.length_take]; omega
      obtain ⟨x, hx⟩ : ∃ x, (P.single n i).take k = x := ⟨_, rfl⟩
      rw [hx] at hst hlen ⊢
      by_cases hki : k = i
      · have e1 : ((k : Int) == (i : Int)) = true := beq_iff_eq.2 (by omega)
        rw [if_pos hki] at hst
        have HST := Lib.hid hst
        have hadd : ∀ W, (Op.stringOp .add (bs x) ⟨#[49]⟩).run Try.prog W = .ok (.string (bs (x ++ [49]))) W := fun W => run_add W x [49] (by simp; omega)
        clear hst hx hki
        go_wp2
        go_round
        case rel => exact ⟨k + 1, by omega, by go_num, by rw [HST.out]⟩
        case measure => simp [intOf]; omega
      · have e1 : ((k : Int) == (i : Int)) = false := beq_eq_false_iff_ne.2 (by omega)
        rw [if_neg hki] at hst
        have HST := Lib.hid hst
        have hadd : ∀ W, (Op.stringOp .add (bs x) ⟨#[48]⟩).run Try.prog W = .ok (.string (bs (x ++ [48]))) W := fun W => run_add W x [48] (by simp; omega)
        clear hst hx hki
        go_wp2
        go_round
        case rel => exact ⟨k + 1, by omega, by go_num, by rw [HST.out]⟩
        case measure => simp [intOf]; omega
    · have HE := Lib.hid (single_all (i := i) hlt)
      go_wp2
      go_ret
      exact ⟨ret_bs HE.out, rfl⟩
theorem c_syndromeOf_l (x : List UInt8) (w : World) (h12 : 12 ≤ x.length) (hs : x.length ≤ 64) (hbits : x.all P.bitB = true) : Calls Try.prog 133 #[.string (bs x)] w fun e w' => e = .returned (.string (bs (P.bitsL (P.synN x) 12))) ∧ Below w.heap.size w w' := c_syndromeOf (bs x) w (by rw [bs_size]; exact h12) (by rw [bs_size]; exact hs) hbits
theorem c_specPatternOf (n i : Int) (w : World) : Calls Try.prog 27 #[.int .i64 n, .int .i64 i] w fun e w' => e = .returned (.tuple #[.string (bs (ptS n i)), .bool (ptOk n i)]) ∧ Qt w w' := by
  cases hn : P.inB n 12 64 with
  | false =>
    have HF := Lib.hid (show ptOk n i = false by unfold ptOk; rw [hn]; rfl)
    go_enter Try.func27, Try.ntmps27
    go_wp2_with (go_at_call 145; refine (c_l1In _ _ _ _).mono ?_; rintro e w' ⟨rfl, rfl⟩)
    go_ret2
    exact ⟨ret_sb (by rw [pt_no HF.out]; rfl) HF.out.symm, Qt.refl _⟩
  | true =>
    obtain ⟨n1, n2⟩ := P.inB_iff.1 hn
    cases hi : P.inB i 0 (n - 1) with
    | false =>
      have HF := Lib.hid (show ptOk n i = false by unfold ptOk; rw [hi, Bool.and_false])
      go_enter Try.func27, Try.ntmps27
      go_wp2_with (go_at_call 145; refine (c_l1In _ _ _ _).mono ?_; rintro e w' ⟨rfl, rfl⟩)
      go_ret2
      exact ⟨ret_sb (by rw [pt_no HF.out]; rfl) HF.out.symm, Qt.refl _⟩
    | true =>
      obtain ⟨i1, i2⟩ := P.inB_iff.1 hi
      obtain ⟨n, rfl⟩ : ∃ x : Nat, n = (x : Int) := ⟨n.toNat, by omega⟩
      obtain ⟨i, rfl⟩ : ∃ x : Nat, i = (x : Int) := ⟨i.toNat, by omega⟩
      have HT := Lib.hid (show ptOk n i = true by unfold ptOk; rw [hi, hn]; rfl)
      have hsl := P.single_len n i
      have HSB := Lib.hid (P.single_bits n i)
      have hsy := P.synN_lt HSB.out (by omega)
      have h12 : 12 ≤ (P.single n i).length := by omega
      have h64 : (P.single n i).length ≤ 64 := by omega
      have hn64 : n ≤ 64 := by omega
      have hi64 : i ≤ 64 := by omega
      clear hsl
      go_enter Try.func27, Try.ntmps27
      go_wp2_with (first | (go_at_call 145; refine (c_l1In _ _ _ _).mono ?_; rintro e w' ⟨rfl, rfl⟩) | (go_at_call 139; refine (c_l4Single n i _ hn64 hi64).mono ?_; rintro e w' ⟨rfl, rfl⟩) | (go_at_call 136; refine (c_l4Syndrome_l _ _ h12 h64 HSB.out).mono ?_; rintro e w1 ⟨rfl, hq1⟩) | (go_at_call 135; refine (c_l2Of _ 12 _ (by omega) (by omega)).mono ?_; rintro e w' ⟨rfl, rfl⟩))
      go_ret2
      exact ⟨ret_sb (by rw [pt_yes HT.out]) HT.out.symm, hq1⟩
theorem c_implPatternOf (n i : Int) (w : World) : Calls Try.prog 22 #[.int .i64 n, .int .i64 i] w fun e w' => e = .returned (.tuple #[.string (bs (ptS n i)), .bool (ptOk n i)]) ∧ Below w.heap.size w w' := by
  cases hn : P.inB n 12 64 with
  | false =>
    have HF := Lib.hid (show ptOk n i = false by unfold ptOk; rw [hn]; rfl)
    go_enter Try.func22, Try.ntmps22
    go_wp2_with (go_at_call 141; refine (c_within _ _ _ _).mono ?_; rintro e w' ⟨rfl, rfl⟩)
    go_ret2
    exact ⟨ret_sb (by rw [pt_no HF.out]; rfl) HF.out.symm, Below.refl _ _⟩
  | true =>
    obtain ⟨n1, n2⟩ := P.inB_iff.1 hn
    cases hi : P.inB i 0 (n - 1) with
    | false =>
      have HF := Lib.hid (show ptOk n i = false by unfold ptOk; rw [hi, Bool.and_false])
      go_enter Try.func22, Try.ntmps22
      go_wp2_with (go_at_call 141; refine (c_within _ _ _ _).mono ?_; rintro e w' ⟨rfl, rfl⟩)
      go_ret2
      exact ⟨ret_sb (by rw [pt_no HF.out]; rfl) HF.out.symm, Below.refl _ _⟩
    | true =>
      obtain ⟨i1, i2⟩ := P.inB_iff.1 hi
      obtain ⟨n, rfl⟩ : ∃ x : Nat, n = (x : Int) := ⟨n.toNat, by omega⟩
      obtain ⟨i, rfl⟩ : ∃ x : Nat, i = (x : Int) := ⟨i.toNat, by omega⟩
      have HT := Lib.hid (show ptOk n i = true by unfold ptOk; rw [hi, hn]; rfl)
      have hsl := P.single_len n i
      have HSB := Lib.hid (P.single_bits n i)
      have h12 : 12 ≤ (P.single n i).length := by omega
      have h64 : (P.single n i).length ≤ 64 := by omega
      have hn64 : n ≤ 64 := by omega
      have hin : i < n := by omega
      have hzl := P.zeros_len n
      obtain ⟨z, hz⟩ : ∃ z, bs (P.zeros n) = z := ⟨_, rfl⟩
      have hzs : z.size = n := by rw [← hz, bs_size, hzl]
      have HZB := Lib.hid (show (B z).all P.bitB = true by rw [← hz]; exact P.zeros_bits n)
      have HZF := Lib.hid (show P.flipL (B z) i = P.single n i by rw [← hz]; exact flip_zeros hin)
      have HFL := Lib.hid (fun W => c_flip z i W (by omega) (by omega) HZB.out)
      have HZ := Lib.hid hz
      obtain ⟨i0, hi0, hz0, hz1, hz2⟩ := info_parts info_u8
      clear hsl hzl hzs hz
      go_enter Try.func22, Try.ntmps22
      go_wp2_with (first | (go_at_call 141; refine (c_within _ _ _ _).mono ?_; rintro e w' ⟨rfl, rfl⟩) | (at_make; refine wpList_make_full _ rfl _ _ 22 rfl w.heap.size 5 i0 (.int .u8 0) 1 Try.underlying22 hi0 hz0 hz1 _ _ _ _ n rfl rfl rfl rfl (by rw [hz2]; omega) (by unfold maxLen; omega) (Nat.le_refl _) ?_))
      intro w1 hown1 hg1
      have hb1 : Below w.heap.size w w1 := (Below.refl _ _).grown hg1 (Nat.le_refl _) (fun k hk => by cases hk)
      have HO := Lib.hid (show w1.ownsRow w.heap.size 5 1 (.slice (some ⟨w.heap.size, 0, none⟩) n n) n (ub (P.zeros 0) ++ List.replicate n (.int .u8 0)) by
        have h := hown1
        rw [toList_madeCells_one] at h
        simpa [ub, P.zeros] using h)
      clear hown1 hg1
      go_wp2
      go_loopw [22] (fun j wr => ∃ k : Nat, k ≤ n ∧ j = .int .i64 k ∧ wr.ownsRow w.heap.size 5 1 (.slice (some ⟨w.heap.size, 0, none⟩) n n) n (ub (P.zeros k) ++ List.replicate (n - k) (.int .u8 0)) ∧ Below w.heap.size w wr) (fun j _ => n - (intOf j).toNat)
      case atStart => exact ⟨0, Nat.zero_le _, rfl, by simpa using HO.out, hb1⟩
      case round =>
        obtain ⟨k, hk, rfl, hown, hb⟩ := hrel
        have hsz := hb.size
        have hzk : (ub (P.zeros k)).length = k := by rw [ub_len, P.zeros_len]
        by_cases hlt : k < n
        · have hcell : wr.cell? ⟨w.heap.size, k, none⟩ = some (.int .u8 0) := by
            rw [hown.cellAt k (by omega), List.getElem?_append_right (by omega), hzk, Nat.sub_self, List.getElem?_replicate, if_pos (by omega)]
          have hfz := hown.frozenAt k
          have hst := (hown.stored k (.int .u8 48)).1
          have hset : (ub (P.zeros k) ++ List.replicate (n - k) (Value.int .u8 0)).set k (.int .u8 48) = ub (P.zeros (k + 1)) ++ List.replicate (n - (k + 1)) (.int .u8 0) := by
            rw [List.set_append_right _ _ (by omega), hzk, Nat.sub_self, show n - k = (n - (k + 1)) + 1 by omega, List.replicate_succ, List.set_cons_zero, ← P.zeros_snoc, ub_app, List.append_assoc]; rfl
          rw [hset] at hst
          have HST := Lib.hid hst
          have HB2 := Lib.hid (hb.setCell (p := ⟨w.heap.size, k, none⟩) (Nat.le_refl _) (.int .u8 48))
          clear hst hset hown hzk
          go_wp2
          go_roundw
          case rel => exact ⟨k + 1, by omega, by go_num, HST.out, HB2.out⟩
          case measure => simp [intOf]; omega
        · have hkn : k = n := by omega
          have hcv := run_str_row (P := Try.prog) (l := P.zeros n) 22 9 5 Try.underlying22 Try.underlying5 Try.underlying9 (by
            have h := hown
            rw [hkn, Nat.sub_self] at h
            simpa using h)
          rw [HZ.out] at hcv
          clear hown hzk hkn
          go_wp2_with fail
          refine (HFL.out _).mono ?_
          rintro e w4 ⟨rfl, hb4⟩
          rw [HZF.out]
          go_wp2_with fail
          refine (c_syndromeOf_l _ _ h12 h64 HSB.out).mono ?_
          rintro e w5 ⟨rfl, hb5⟩
          have hbf := hb.trans ((hb4.trans (hb5.mono hb4.size)).mono hb.size)
          clear hb4 hb5 hcv
          go_wp2
          go_ret2
          exact ⟨ret_sb (by rw [pt_yes HT.out]) HT.out.symm, hbf⟩
end Go.Proofs.Ytfbanjmooknafaa
