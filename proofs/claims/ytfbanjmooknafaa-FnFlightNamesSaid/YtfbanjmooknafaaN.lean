/-
  Contracts of the functions on single letters and their codes.
-/
import Derived.Test.YtfbanjmooknafaaW
namespace Go.Proofs.Ytfbanjmooknafaa
open Go.RowKit
set_option linter.unusedSimpArgs false
set_option linter.unusedVariables false

theorem c_isLetter (c : UInt8) (w : World) : Calls Try.prog 192 #[.int .u8 c.toNat] w fun e w' => e = .returned (.bool (P.letB c)) ∧ w = w' := by
  have hb := c.toNat_lt
  unfold P.letB
  by_cases h : 65 ≤ c.toNat
  · go_enter Try.func192, Try.ntmps192
    go_wp2
    go_ret
    exact ⟨ret_bool (by simp [h]; omega), rfl⟩
  · go_enter Try.func192, Try.ntmps192
    go_wp2
    go_ret
    exact ⟨ret_bool (by simp [h]), rfl⟩
theorem c_isDigit (c : UInt8) (w : World) : Calls Try.prog 193 #[.int .u8 c.toNat] w fun e w' => e = .returned (.bool (P.digB c)) ∧ w = w' := by
  have hb := c.toNat_lt
  unfold P.digB
  by_cases h : 48 ≤ c.toNat
  · go_enter Try.func193, Try.ntmps193
    go_wp2
    go_ret
    exact ⟨ret_bool (by simp [h]; omega), rfl⟩
  · go_enter Try.func193, Try.ntmps193
    go_wp2
    go_ret
    exact ⟨ret_bool (by simp [h]), rfl⟩
/-- the four kinds of a byte: letter, digit, space, other -/
theorem code_kinds (c : UInt8) : (P.letB c = true ∧ 65 ≤ c.toNat ∧ c.toNat ≤ 90 ∧ P.codeN c = c.toNat - 64 ∧ P.codeB c = true) ∨
    (P.letB c = false ∧ P.digB c = true ∧ 48 ≤ c.toNat ∧ c.toNat ≤ 57 ∧ P.codeN c = c.toNat ∧ P.codeB c = true) ∨
    (P.letB c = false ∧ P.digB c = false ∧ c.toNat = 32 ∧ P.codeN c = 32 ∧ P.codeB c = true) ∨
    (P.letB c = false ∧ P.digB c = false ∧ c.toNat ≠ 32 ∧ ¬ (65 ≤ c.toNat ∧ c.toNat ≤ 90) ∧ ¬ (48 ≤ c.toNat ∧ c.toNat ≤ 57) ∧ P.codeN c = 0 ∧ P.codeB c = false) := by
  cases hl : P.letB c with
  | true =>
    have := (P.letB_iff c).1 hl
    exact .inl ⟨rfl, this.1, this.2, by unfold P.codeN; rw [if_pos hl], by unfold P.codeB; rw [hl]; rfl⟩
  | false =>
    have hl' : ¬ (65 ≤ c.toNat ∧ c.toNat ≤ 90) := fun e => by rw [(P.letB_iff c).2 e] at hl; simp at hl
    cases hd : P.digB c with
    | true =>
      have := (P.digB_iff c).1 hd
      exact .inr (.inl ⟨rfl, rfl, this.1, this.2, by unfold P.codeN; rw [if_neg (by rw [hl]; simp), if_pos (.inl hd)], by unfold P.codeB; rw [hd]; simp⟩)
    | false =>
      have hd' : ¬ (48 ≤ c.toNat ∧ c.toNat ≤ 57) := fun e => by rw [(P.digB_iff c).2 e] at hd; simp at hd
      by_cases h32 : c.toNat = 32
      · have hc : c = 32 := UInt8.toNat_inj.1 h32
        subst hc
        exact .inr (.inr (.inl ⟨rfl, rfl, rfl, rfl, rfl⟩))
      · have hc : c ≠ 32 := fun e => h32 (by rw [e]; rfl)
        exact .inr (.inr (.inr ⟨rfl, rfl, h32, hl', hd', by unfold P.codeN; rw [if_neg (by rw [hl]; simp), if_neg (by rw [hd]; simpa using hc)], by unfold P.codeB; rw [hl, hd]; simpa using hc⟩))
theorem c_implLetterCode (c : UInt8) (w : World) : Calls Try.prog 97 #[.int .u8 c.toNat] w fun e w' => e = .returned (.tuple #[.int .i64 (P.codeN c), .bool (P.codeB c)]) ∧ w = w' := by
  have hb := c.toNat_lt
  rcases code_kinds c with ⟨hl, h1, h2, hc, hk⟩ | ⟨hl, hd, h1, h2, hc, hk⟩ | ⟨hl, hd, h1, hc, hk⟩ | ⟨hl, hd, h1, h2, h3, hc, hk⟩
  · have HC := Lib.hid hc
    have HK := Lib.hid hk
    clear hc hk
    go_enter Try.func97, Try.ntmps97
    go_wp2_with (first | (go_at_call 192; refine (c_isLetter c _).mono ?_; rintro e w' ⟨rfl, rfl⟩))
    go_ret2
    exact ⟨ret_ib (by rw [HC.out]; omega) HK.out.symm, rfl⟩
  · have HC := Lib.hid hc
    have HK := Lib.hid hk
    clear hc hk
    go_enter Try.func97, Try.ntmps97
    go_wp2_with (first | (go_at_call 192; refine (c_isLetter c _).mono ?_; rintro e w' ⟨rfl, rfl⟩) | (go_at_call 193; refine (c_isDigit c _).mono ?_; rintro e w' ⟨rfl, rfl⟩))
    go_ret2
    exact ⟨ret_ib (by rw [HC.out]) HK.out.symm, rfl⟩
  · have HC := Lib.hid hc
    have HK := Lib.hid hk
    have h32 : ((c.toNat : Int) == 32) = true := beq_iff_eq.2 (by omega)
    have H1 := Lib.hid h1
    clear hc hk h1
    go_enter Try.func97, Try.ntmps97
    go_wp2_with (first | (go_at_call 192; refine (c_isLetter c _).mono ?_; rintro e w' ⟨rfl, rfl⟩) | (go_at_call 193; refine (c_isDigit c _).mono ?_; rintro e w' ⟨rfl, rfl⟩))
    go_ret2
    exact ⟨ret_ib (by rw [HC.out, H1.out]) HK.out.symm, rfl⟩
  · have HC := Lib.hid hc
    have HK := Lib.hid hk
    have h32 : ((c.toNat : Int) == 32) = false := beq_eq_false_iff_ne.2 (by omega)
    clear hc hk h1
    go_enter Try.func97, Try.ntmps97
    go_wp2_with (first | (go_at_call 192; refine (c_isLetter c _).mono ?_; rintro e w' ⟨rfl, rfl⟩) | (go_at_call 193; refine (c_isDigit c _).mono ?_; rintro e w' ⟨rfl, rfl⟩))
    go_ret2
    exact ⟨ret_ib (by rw [HC.out]; rfl) HK.out.symm, rfl⟩
/-- the reference's code: -1 if there is none -/
theorem c_l3Code (c : UInt8) (w : World) : Calls Try.prog 196 #[.int .u8 c.toNat] w fun e w' => e = .returned (.int .i64 (P.codeI c)) ∧ w = w' := by
  have hb := c.toNat_lt
  rcases code_kinds c with ⟨hl, h1, h2, hc, hk⟩ | ⟨hl, hd, h1, h2, hc, hk⟩ | ⟨hl, hd, h1, hc, hk⟩ | ⟨hl, hd, h1, h2, h3, hc, hk⟩
  · have HC := Lib.hid hc
    have HK := Lib.hid hk
    clear hc hk
    go_enter Try.func196, Try.ntmps196
    go_wp2
    go_ret
    exact ⟨ret_int (by unfold P.codeI; rw [HC.out, HK.out, if_pos rfl]; omega), rfl⟩
  · have HC := Lib.hid hc
    have HK := Lib.hid hk
    clear hc hk
    go_enter Try.func196, Try.ntmps196
    go_wp2
    go_ret
    exact ⟨ret_int (by unfold P.codeI; rw [HC.out, HK.out, if_pos rfl]), rfl⟩
  · have HC := Lib.hid hc
    have HK := Lib.hid hk
    have h32 : ((c.toNat : Int) == 32) = true := beq_iff_eq.2 (by omega)
    have h32b : (c.toNat : Int) ≤ 32 := by omega
    have H1 := Lib.hid h1
    clear hc hk h1
    go_enter Try.func196, Try.ntmps196
    go_wp2
    go_ret
    exact ⟨ret_int (by unfold P.codeI; rw [HC.out, HK.out, H1.out, if_pos rfl]), rfl⟩
  · have HC := Lib.hid hc
    have HK := Lib.hid hk
    have h32 : ((c.toNat : Int) == 32) = false := beq_eq_false_iff_ne.2 (by omega)
    have h2' : c.toNat < 65 ∨ 90 < c.toNat := by omega
    have h3' : c.toNat < 48 ∨ 57 < c.toNat := by omega
    clear hc hk h1 h2 h3
    rcases h2' with h2 | h2
    all_goals
      rcases h3' with h3 | h3
      all_goals first
        | (exfalso; omega)
        | (go_enter Try.func196, Try.ntmps196
           go_wp2
           go_ret
           exact ⟨ret_int (by unfold P.codeI; rw [HK.out]; rfl), rfl⟩)
theorem c_specLetterCode (c : UInt8) (w : World) : Calls Try.prog 98 #[.int .u8 c.toNat] w fun e w' => e = .returned (.tuple #[.int .i64 (P.codeN c), .bool (P.codeB c)]) ∧ w = w' := by
  cases hk : P.codeB c with
  | true =>
    have HI := Lib.hid (show P.codeI c = P.codeN c by unfold P.codeI; rw [hk]; rfl)
    have h0 : 0 ≤ P.codeI c := by rw [HI.out]; omega
    go_enter Try.func98, Try.ntmps98
    go_wp2_with (first | (go_at_call 196; refine (c_l3Code c _).mono ?_; rintro e w' ⟨rfl, rfl⟩))
    go_ret2
    exact ⟨ret_ib HI.out rfl, rfl⟩
  | false =>
    have hi : P.codeI c = -1 := by unfold P.codeI; rw [hk]; rfl
    have h0 : P.codeI c < 0 := by omega
    have HN := Lib.hid (show P.codeN c = 0 by
      rcases code_kinds c with ⟨hl, h1, h2, hc, hk'⟩ | ⟨hl, hd, h1, h2, hc, hk'⟩ | ⟨hl, hd, h1, hc, hk'⟩ | ⟨hl, hd, h1, h2, h3, hc, hk'⟩
      · rw [hk] at hk'; simp at hk'
      · rw [hk] at hk'; simp at hk'
      · rw [hk] at hk'; simp at hk'
      · exact hc)
    clear hi
    go_enter Try.func98, Try.ntmps98
    go_wp2_with (first | (go_at_call 196; refine (c_l3Code c _).mono ?_; rintro e w' ⟨rfl, rfl⟩))
    go_ret2
    exact ⟨ret_ib (by rw [HN.out]; rfl) rfl, rfl⟩
/-- the kinds of a code -/
theorem ofc_kinds (n : Int) : (P.inB n 1 26 = true ∧ 1 ≤ n ∧ n ≤ 26 ∧ (P.ofCode n).toNat = n + 64 ∧ P.ofCodeB n = true) ∨
    (P.inB n 1 26 = false ∧ P.inB n 48 57 = true ∧ 48 ≤ n ∧ n ≤ 57 ∧ (P.ofCode n).toNat = n ∧ P.ofCodeB n = true) ∨
    (P.inB n 1 26 = false ∧ P.inB n 48 57 = false ∧ n = 32 ∧ P.ofCode n = 32 ∧ P.ofCodeB n = true) ∨
    (P.inB n 1 26 = false ∧ P.inB n 48 57 = false ∧ n ≠ 32 ∧ P.ofCode n = 0 ∧ P.ofCodeB n = false) := by
  by_cases h1 : 1 ≤ n ∧ n ≤ 26
  · refine .inl ⟨P.inB_iff.2 h1, h1.1, h1.2, ?_, ?_⟩
    · unfold P.ofCode; rw [if_pos h1, UInt8.toNat_ofNat']; omega
    · unfold P.ofCodeB; simp; omega
  · have e1 : P.inB n 1 26 = false := P.inB_no.2 (by omega)
    by_cases h2 : 48 ≤ n ∧ n ≤ 57
    · refine .inr (.inl ⟨e1, P.inB_iff.2 h2, h2.1, h2.2, ?_, ?_⟩)
      · unfold P.ofCode; rw [if_neg h1, if_pos (.inl h2), UInt8.toNat_ofNat']; omega
      · unfold P.ofCodeB; simp; omega
    · have e2 : P.inB n 48 57 = false := P.inB_no.2 (by omega)
      by_cases h3 : n = 32
      · exact .inr (.inr (.inl ⟨e1, e2, h3, by subst h3; rfl, by subst h3; rfl⟩))
      · refine .inr (.inr (.inr ⟨e1, e2, h3, ?_, ?_⟩))
        · unfold P.ofCode; rw [if_neg h1, if_neg (by omega)]
        · unfold P.ofCodeB; rw [Bool.eq_false_iff]; intro e; simp at e; omega
theorem c_implLetterOf (n : Int) (w : World) : Calls Try.prog 99 #[.int .i64 n] w fun e w' => e = .returned (.tuple #[.int .u8 (P.ofCode n).toNat, .bool (P.ofCodeB n)]) ∧ w = w' := by
  rcases ofc_kinds n with ⟨e1, h1, h2, hc, hk⟩ | ⟨e1, e2, h1, h2, hc, hk⟩ | ⟨e1, e2, h1, hc, hk⟩ | ⟨e1, e2, h1, hc, hk⟩
  · have HC := Lib.hid hc
    have HK := Lib.hid hk
    clear hc hk
    go_enter Try.func99, Try.ntmps99
    go_wp2_with (first | (go_at_call 141; refine (c_within _ _ _ _).mono ?_; rintro e w' ⟨rfl, rfl⟩))
    go_ret2
    exact ⟨ret_ib (by rw [HC.out]; omega) HK.out.symm, rfl⟩
  · have HC := Lib.hid hc
    have HK := Lib.hid hk
    clear hc hk
    go_enter Try.func99, Try.ntmps99
    go_wp2_with (first | (go_at_call 141; refine (c_within _ _ _ _).mono ?_; rintro e w' ⟨rfl, rfl⟩))
    go_ret2
    exact ⟨ret_ib (by rw [HC.out]) HK.out.symm, rfl⟩
  · have HC := Lib.hid hc
    have HK := Lib.hid hk
    have h32 : (n == 32) = true := beq_iff_eq.2 h1
    have hn1 : 0 ≤ n := by omega
    have hn2 : n ≤ 255 := by omega
    have H1 := Lib.hid h1
    clear hc hk h1
    go_enter Try.func99, Try.ntmps99
    go_wp2_with (first | (go_at_call 141; refine (c_within _ _ _ _).mono ?_; rintro e w' ⟨rfl, rfl⟩))
    go_ret2
    exact ⟨ret_ib (by rw [HC.out, H1.out]; rfl) HK.out.symm, rfl⟩
  · have HC := Lib.hid hc
    have HK := Lib.hid hk
    have h32 : (n == 32) = false := beq_eq_false_iff_ne.2 h1
    clear hc hk h1
    go_enter Try.func99, Try.ntmps99
    go_wp2_with (first | (go_at_call 141; refine (c_within _ _ _ _).mono ?_; rintro e w' ⟨rfl, rfl⟩))
    go_ret2
    exact ⟨ret_ib (by rw [HC.out]; rfl) HK.out.symm, rfl⟩
theorem c_l3Byte (n : Int) (w : World) : Calls Try.prog 195 #[.int .i64 n] w fun e w' => e = .returned (.int .u8 (P.ofCode n).toNat) ∧ w = w' := by
  rcases ofc_kinds n with ⟨e1, h1, h2, hc, hk⟩ | ⟨e1, e2, h1, h2, hc, hk⟩ | ⟨e1, e2, h1, hc, hk⟩ | ⟨e1, e2, h1, hc, hk⟩
  · have HC := Lib.hid hc
    clear hc hk
    go_enter Try.func195, Try.ntmps195
    go_wp2_with (first | (go_at_call 145; refine (c_l1In _ _ _ _).mono ?_; rintro e w' ⟨rfl, rfl⟩))
    go_ret
    exact ⟨ret_int (by rw [HC.out]; omega), rfl⟩
  · have HC := Lib.hid hc
    clear hc hk
    go_enter Try.func195, Try.ntmps195
    go_wp2_with (first | (go_at_call 145; refine (c_l1In _ _ _ _).mono ?_; rintro e w' ⟨rfl, rfl⟩))
    go_ret
    exact ⟨ret_int (by rw [HC.out]), rfl⟩
  · have HC := Lib.hid hc
    have h32 : (n == 32) = true := beq_iff_eq.2 h1
    have hn1 : 0 ≤ n := by omega
    have hn2 : n ≤ 255 := by omega
    have H1 := Lib.hid h1
    clear hc hk h1
    go_enter Try.func195, Try.ntmps195
    go_wp2_with (first | (go_at_call 145; refine (c_l1In _ _ _ _).mono ?_; rintro e w' ⟨rfl, rfl⟩))
    go_ret
    exact ⟨ret_int (by rw [HC.out, H1.out]; rfl), rfl⟩
  · have HC := Lib.hid hc
    have h32 : (n == 32) = false := beq_eq_false_iff_ne.2 h1
    clear hc hk h1
    go_enter Try.func195, Try.ntmps195
    go_wp2_with (first | (go_at_call 145; refine (c_l1In _ _ _ _).mono ?_; rintro e w' ⟨rfl, rfl⟩))
    go_ret
    exact ⟨ret_int (by rw [HC.out]; rfl), rfl⟩
theorem ofc_pos (n : Int) : P.ofCodeB n = decide (0 < ((P.ofCode n).toNat : Int)) := by
  rcases ofc_kinds n with ⟨e1, h1, h2, hc, hk⟩ | ⟨e1, e2, h1, h2, hc, hk⟩ | ⟨e1, e2, h1, hc, hk⟩ | ⟨e1, e2, h1, hc, hk⟩
  · rw [hk]; symm; apply decide_eq_true; omega
  · rw [hk]; symm; apply decide_eq_true; omega
  · rw [hk, hc]; rfl
  · rw [hk, hc]; rfl
theorem c_specLetterOf (n : Int) (w : World) : Calls Try.prog 101 #[.int .i64 n] w fun e w' => e = .returned (.tuple #[.int .u8 (P.ofCode n).toNat, .bool (P.ofCodeB n)]) ∧ Qt w w' := by
  have HP := Lib.hid (ofc_pos n)
  go_enter Try.func101, Try.ntmps101
  go_wp2_with (first | (go_at_call 195; refine (c_l3Byte n _).mono ?_; rintro e w' ⟨rfl, rfl⟩))
  go_ret2
  exact ⟨ret_ib rfl (by rw [HP.out]; simp), Qt.refl _⟩
end Go.Proofs.Ytfbanjmooknafaa
