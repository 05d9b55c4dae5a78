/-
  Contracts of the height codes and the walks of their laws.
-/
import Derived.Test.YtdcmegijokamkaaW
namespace Go.Proofs.Ytdcmegijokamkaa
open Go.RowKit
set_option linter.unusedSimpArgs false
set_option linter.unusedVariables false

theorem c_fromGray (g : Nat) (w : World) (hg : g ≤ 2047) : Calls Try.prog 44 #[.int .i64 g] w fun e w' => e = .returned (.int .i64 (P.fgL 0 g)) ∧ w = w' := by
  go_enter Try.func44, Try.ntmps44
  go_wp2
  go_loop [3, 0] (fun n g' => ∃ m k : Nat, m < 2048 ∧ k < 2048 ∧ n = .int .i64 m ∧ g' = .int .i64 k ∧ P.fgL m k = P.fgL 0 g) (fun _ g' => (intOf g').toNat)
  case atStart => exact ⟨0, g, by omega, by omega, rfl, rfl, rfl⟩
  case round =>
    obtain ⟨m, k, hm, hk, rfl, rfl, he⟩ := hrel
    have HE := Lib.hid he
    clear he
    by_cases h0 : 0 < k
    · have hx := i64_xor m k (by omega) (by omega)
      have HS := Lib.hid (show P.fgL (m ^^^ k) (k / 2) = P.fgL 0 g by rw [← HE.out]; exact (P.fgL_step m k h0).symm)
      have hlt : m ^^^ k < 2048 := Nat.xor_lt_two_pow (n := 11) (by omega) (by omega)
      go_wp2
      go_round
      case rel => exact ⟨m ^^^ k, k / 2, hlt, by omega, rfl, by go_num, HS.out⟩
      case measure => simp [intOf]; omega
    · have HZ := Lib.hid (show m = P.fgL 0 g by
        have : k = 0 := by omega
        rw [← HE.out, this, P.fgL_zero])
      go_wp2
      go_ret
      exact ⟨ret_int (by rw [← HZ.out]), rfl⟩
theorem c_l6FromGray (g : Nat) (w : World) (hg : g ≤ 2047) : Calls Try.prog 43 #[.int .i64 g] w fun e w' => e = .returned (.int .i64 (P.fgL 0 g)) ∧ w = w' := by
  go_enter Try.func43, Try.ntmps43
  go_wp2
  go_loop [3, 0] (fun n g' => ∃ m k : Nat, m < 2048 ∧ k < 2048 ∧ n = .int .i64 m ∧ g' = .int .i64 k ∧ P.fgL m k = P.fgL 0 g) (fun _ g' => (intOf g').toNat)
  case atStart => exact ⟨0, g, by omega, by omega, rfl, rfl, rfl⟩
  case round =>
    obtain ⟨m, k, hm, hk, rfl, rfl, he⟩ := hrel
    have HE := Lib.hid he
    clear he
    by_cases h0 : 0 < k
    · have hx := i64_xor m k (by omega) (by omega)
      have HS := Lib.hid (show P.fgL (m ^^^ k) (k / 2) = P.fgL 0 g by rw [← HE.out]; exact (P.fgL_step m k h0).symm)
      have hlt : m ^^^ k < 2048 := Nat.xor_lt_two_pow (n := 11) (by omega) (by omega)
      go_wp2
      go_round
      case rel => exact ⟨m ^^^ k, k / 2, hlt, by omega, rfl, by go_num, HS.out⟩
      case measure => simp [intOf]; omega
    · have HZ := Lib.hid (show m = P.fgL 0 g by
        have : k = 0 := by omega
        rw [← HE.out, this, P.fgL_zero])
      go_wp2
      go_ret
      exact ⟨ret_int (by rw [← HZ.out]), rfl⟩
theorem l_FnExactGrayOf (n : Int) (hw : (Lit.int .i64 n).wf = true) (w : World) : Calls Try.prog 3 #[.int .i64 n] w fun e w' => e = .returned (.bool true) ∧ Below w.heap.size w w' := by
  clear hw
  cases h : P.inB n 0 2047 with
  | true =>
    obtain ⟨h0, h1⟩ := P.inB_iff.1 h
    go_enter Try.func3, Try.ntmps3
    go_wp2_with (first | (go_at_call 41; refine (c_within _ _ _ _).mono ?_; rintro e w' ⟨rfl, rfl⟩) | (go_at_call 39; refine (c_l1In _ _ _ _).mono ?_; rintro e w' ⟨rfl, rfl⟩) | go_in)
    go_ret
    exact ⟨rfl, Below.refl _ _⟩
  | false =>
    go_enter Try.func3, Try.ntmps3
    go_wp2_with (first | (go_at_call 41; refine (c_within _ _ _ _).mono ?_; rintro e w' ⟨rfl, rfl⟩) | (go_at_call 39; refine (c_l1In _ _ _ _).mono ?_; rintro e w' ⟨rfl, rfl⟩) | go_in)
    go_ret
    exact ⟨rfl, Below.refl _ _⟩
theorem l_FnExactFromGray (n : Int) (hw : (Lit.int .i64 n).wf = true) (w : World) : Calls Try.prog 4 #[.int .i64 n] w fun e w' => e = .returned (.bool true) ∧ Below w.heap.size w w' := by
  clear hw
  cases h : P.inB n 0 2047 with
  | true =>
    obtain ⟨h0, h1⟩ := P.inB_iff.1 h
    obtain ⟨k, rfl⟩ : ∃ k : Nat, n = (k : Int) := ⟨n.toNat, by omega⟩
    have hk : k ≤ 2047 := by omega
    go_enter Try.func4, Try.ntmps4
    go_wp2_with (first | (go_at_call 41; refine (c_within _ _ _ _).mono ?_; rintro e w' ⟨rfl, rfl⟩) | (go_at_call 39; refine (c_l1In _ _ _ _).mono ?_; rintro e w' ⟨rfl, rfl⟩) | (go_at_call 44; refine (c_fromGray k _ hk).mono ?_; rintro e w' ⟨rfl, rfl⟩) | (go_at_call 43; refine (c_l6FromGray k _ hk).mono ?_; rintro e w' ⟨rfl, rfl⟩) | go_in)
    go_ret
    exact ⟨rfl, Below.refl _ _⟩
  | false =>
    go_enter Try.func4, Try.ntmps4
    go_wp2_with (first | (go_at_call 41; refine (c_within _ _ _ _).mono ?_; rintro e w' ⟨rfl, rfl⟩) | (go_at_call 39; refine (c_l1In _ _ _ _).mono ?_; rintro e w' ⟨rfl, rfl⟩) | go_in)
    go_ret
    exact ⟨rfl, Below.refl _ _⟩
theorem l_FnExactEncodeHeight (h : Int) (fine : Bool) (hw : (Lit.int .i64 h).wf = true) (w : World) : Calls Try.prog 5 #[.int .i64 h, .bool fine] w fun e w' => e = .returned (.bool true) ∧ Below w.heap.size w w' := by
  have hb := bounds_i64 hw
  obtain ⟨hb1, hb2⟩ := hb
  clear hw
  cases fine with
  | true =>
    cases hr : P.inB h (-1000) 50175 with
    | true =>
      obtain ⟨h0, h1⟩ := P.inB_iff.1 hr
      by_cases hm : (h + 1000) % 25 = 0
      · have hm' : ((h + 1000) % 25 != 0) = false := by rw [bne_eq_false_iff_eq]; exact hm
        clear hm
        go_enter Try.func5, Try.ntmps5
        go_wp2_with (first | (go_at_call 41; refine (c_within _ _ _ _).mono ?_; rintro e w' ⟨rfl, rfl⟩) | (go_at_call 39; refine (c_l1In _ _ _ _).mono ?_; rintro e w' ⟨rfl, rfl⟩) | go_in)
        go_ret
        exact ⟨rfl, Below.refl _ _⟩
      · have hm' : ((h + 1000) % 25 != 0) = true := by rw [bne_iff_ne]; exact hm
        clear hm
        go_enter Try.func5, Try.ntmps5
        go_wp2_with (first | (go_at_call 41; refine (c_within _ _ _ _).mono ?_; rintro e w' ⟨rfl, rfl⟩) | (go_at_call 39; refine (c_l1In _ _ _ _).mono ?_; rintro e w' ⟨rfl, rfl⟩) | go_in)
        go_ret
        exact ⟨rfl, Below.refl _ _⟩
    | false =>
      have h2 := P.inB_no.1 hr
      rcases h2 with h2 | h2
      all_goals
        go_enter Try.func5, Try.ntmps5
        go_wp2_with (first | (go_at_call 41; refine (c_within _ _ _ _).mono ?_; rintro e w' ⟨rfl, rfl⟩) | (go_at_call 39; refine (c_l1In _ _ _ _).mono ?_; rintro e w' ⟨rfl, rfl⟩) | go_in)
        all_goals
          go_ret
          exact ⟨rfl, Below.refl _ _⟩
  | false =>
    cases hr : P.inB h (-1200) 126700 with
    | true =>
      obtain ⟨h0, h1⟩ := P.inB_iff.1 hr
      by_cases hm : (h + 1200) % 100 = 0
      · have hm' : ((h + 1200) % 100 != 0) = false := by rw [bne_eq_false_iff_eq]; exact hm
        clear hm
        go_enter Try.func5, Try.ntmps5
        go_wp2_with (first | (go_at_call 41; refine (c_within _ _ _ _).mono ?_; rintro e w' ⟨rfl, rfl⟩) | (go_at_call 39; refine (c_l1In _ _ _ _).mono ?_; rintro e w' ⟨rfl, rfl⟩) | go_in)
        go_ret
        exact ⟨rfl, Below.refl _ _⟩
      · have hm' : ((h + 1200) % 100 != 0) = true := by rw [bne_iff_ne]; exact hm
        clear hm
        go_enter Try.func5, Try.ntmps5
        go_wp2_with (first | (go_at_call 41; refine (c_within _ _ _ _).mono ?_; rintro e w' ⟨rfl, rfl⟩) | (go_at_call 39; refine (c_l1In _ _ _ _).mono ?_; rintro e w' ⟨rfl, rfl⟩) | go_in)
        go_ret
        exact ⟨rfl, Below.refl _ _⟩
    | false =>
      have h2 := P.inB_no.1 hr
      rcases h2 with h2 | h2
      all_goals
        go_enter Try.func5, Try.ntmps5
        go_wp2_with (first | (go_at_call 41; refine (c_within _ _ _ _).mono ?_; rintro e w' ⟨rfl, rfl⟩) | (go_at_call 39; refine (c_l1In _ _ _ _).mono ?_; rintro e w' ⟨rfl, rfl⟩) | go_in)
        all_goals
          go_ret
          exact ⟨rfl, Below.refl _ _⟩
theorem dh_fine {n : Int} (h : P.inB n 2048 4095 = true) : P.dhI n = -1000 + 25 * (n - 2048) ∧ P.dhF n = true ∧ P.dhOk n = true := by
  unfold P.dhI P.dhF P.dhOk; rw [h]; exact ⟨rfl, rfl, rfl⟩
theorem dh_none {n : Int} (h : P.inB n 2048 4095 = false) (h2 : P.inB n 0 2047 = false) : P.dhI n = 0 ∧ P.dhF n = false ∧ P.dhOk n = false := by
  unfold P.dhI P.dhF P.dhOk; rw [h, h2]; exact ⟨rfl, rfl, rfl⟩
theorem dh_no {k : Nat} (h : P.inB (k : Int) 2048 4095 = false) (h5 : 1279 < P.fgL 0 k) : P.dhI k = 0 ∧ P.dhF k = false ∧ P.dhOk k = false := by
  have hok : P.dhOk (k : Int) = false := by unfold P.dhOk; rw [h, Int.toNat_natCast, decide_eq_false (by omega)]; simp
  refine ⟨?_, h, hok⟩
  unfold P.dhI; rw [h, hok]; rfl
theorem dh_yes {k : Nat} (h : P.inB (k : Int) 2048 4095 = false) (h2 : P.inB (k : Int) 0 2047 = true) (h5 : ¬ 1279 < P.fgL 0 k) : P.dhI k = -1200 + 100 * (P.fgL 0 k : Int) ∧ P.dhF k = false ∧ P.dhOk k = true := by
  have hok : P.dhOk (k : Int) = true := by unfold P.dhOk; rw [h, h2, Int.toNat_natCast, decide_eq_true (by omega)]; rfl
  refine ⟨?_, h, hok⟩
  unfold P.dhI; rw [h, hok, if_neg (by simp), if_pos rfl, Int.toNat_natCast]
theorem c_implDecodeHeight (n : Int) (w : World) : Calls Try.prog 22 #[.int .i64 n] w fun e w' => e = .returned (.tuple #[.int .i64 (P.dhI n), .bool (P.dhF n), .bool (P.dhOk n)]) ∧ w = w' := by
  cases h1 : P.inB n 2048 4095 with
  | true =>
    obtain ⟨h2, h3⟩ := P.inB_iff.1 h1
    have HR := Lib.hid (dh_fine h1)
    go_enter Try.func22, Try.ntmps22
    go_wp2_with (first | (go_at_call 41; refine (c_within _ _ _ _).mono ?_; rintro e w' ⟨rfl, rfl⟩) | (go_at_call 39; refine (c_l1In _ _ _ _).mono ?_; rintro e w' ⟨rfl, rfl⟩))
    go_ret3
    exact ⟨ret_ibb HR.out.1.symm HR.out.2.1.symm HR.out.2.2.symm, rfl⟩
  | false =>
    cases h4 : P.inB n 0 2047 with
    | true =>
      obtain ⟨h2, h3⟩ := P.inB_iff.1 h4
      obtain ⟨k, rfl⟩ : ∃ k : Nat, n = (k : Int) := ⟨n.toNat, by omega⟩
      have hk : k ≤ 2047 := by omega
      have hfl := P.fgL_lt k 0 (by omega) (by omega)
      by_cases h5 : 1279 < P.fgL 0 k
      · have HR := Lib.hid (dh_no h1 h5)
        go_enter Try.func22, Try.ntmps22
        go_wp2_with (first | (go_at_call 41; refine (c_within _ _ _ _).mono ?_; rintro e w' ⟨rfl, rfl⟩) | (go_at_call 39; refine (c_l1In _ _ _ _).mono ?_; rintro e w' ⟨rfl, rfl⟩) | (go_at_call 44; refine (c_fromGray k _ hk).mono ?_; rintro e w' ⟨rfl, rfl⟩))
        go_ret3
        exact ⟨ret_ibb HR.out.1.symm HR.out.2.1.symm HR.out.2.2.symm, rfl⟩
      · have HR := Lib.hid (dh_yes h1 h4 h5)
        go_enter Try.func22, Try.ntmps22
        go_wp2_with (first | (go_at_call 41; refine (c_within _ _ _ _).mono ?_; rintro e w' ⟨rfl, rfl⟩) | (go_at_call 39; refine (c_l1In _ _ _ _).mono ?_; rintro e w' ⟨rfl, rfl⟩) | (go_at_call 44; refine (c_fromGray k _ hk).mono ?_; rintro e w' ⟨rfl, rfl⟩))
        go_ret3
        exact ⟨ret_ibb (by rw [HR.out.1]; first | done | omega) HR.out.2.1.symm HR.out.2.2.symm, rfl⟩
    | false =>
      have HR := Lib.hid (dh_none h1 h4)
      go_enter Try.func22, Try.ntmps22
      go_wp2_with (first | (go_at_call 41; refine (c_within _ _ _ _).mono ?_; rintro e w' ⟨rfl, rfl⟩) | (go_at_call 39; refine (c_l1In _ _ _ _).mono ?_; rintro e w' ⟨rfl, rfl⟩))
      go_ret3
      exact ⟨ret_ibb HR.out.1.symm HR.out.2.1.symm HR.out.2.2.symm, rfl⟩
theorem c_l6Decode (n : Int) (w : World) : Calls Try.prog 45 #[.int .i64 n] w fun e w' => e = .returned (.tuple #[.int .i64 (P.dhI n), .bool (P.dhF n), .bool (P.dhOk n)]) ∧ w = w' := by
  cases h1 : P.inB n 2048 4095 with
  | true =>
    obtain ⟨h2, h3⟩ := P.inB_iff.1 h1
    have HR := Lib.hid (dh_fine h1)
    go_enter Try.func45, Try.ntmps45
    go_wp2_with (first | (go_at_call 41; refine (c_within _ _ _ _).mono ?_; rintro e w' ⟨rfl, rfl⟩) | (go_at_call 39; refine (c_l1In _ _ _ _).mono ?_; rintro e w' ⟨rfl, rfl⟩))
    go_ret3
    exact ⟨ret_ibb HR.out.1.symm HR.out.2.1.symm HR.out.2.2.symm, rfl⟩
  | false =>
    cases h4 : P.inB n 0 2047 with
    | true =>
      obtain ⟨h2, h3⟩ := P.inB_iff.1 h4
      obtain ⟨k, rfl⟩ : ∃ k : Nat, n = (k : Int) := ⟨n.toNat, by omega⟩
      have hk : k ≤ 2047 := by omega
      have hfl := P.fgL_lt k 0 (by omega) (by omega)
      by_cases h5 : 1279 < P.fgL 0 k
      · have HR := Lib.hid (dh_no h1 h5)
        go_enter Try.func45, Try.ntmps45
        go_wp2_with (first | (go_at_call 41; refine (c_within _ _ _ _).mono ?_; rintro e w' ⟨rfl, rfl⟩) | (go_at_call 39; refine (c_l1In _ _ _ _).mono ?_; rintro e w' ⟨rfl, rfl⟩) | (go_at_call 43; refine (c_l6FromGray k _ hk).mono ?_; rintro e w' ⟨rfl, rfl⟩))
        go_ret3
        exact ⟨ret_ibb HR.out.1.symm HR.out.2.1.symm HR.out.2.2.symm, rfl⟩
      · have HR := Lib.hid (dh_yes h1 h4 h5)
        go_enter Try.func45, Try.ntmps45
        go_wp2_with (first | (go_at_call 41; refine (c_within _ _ _ _).mono ?_; rintro e w' ⟨rfl, rfl⟩) | (go_at_call 39; refine (c_l1In _ _ _ _).mono ?_; rintro e w' ⟨rfl, rfl⟩) | (go_at_call 43; refine (c_l6FromGray k _ hk).mono ?_; rintro e w' ⟨rfl, rfl⟩))
        go_ret3
        exact ⟨ret_ibb (by rw [HR.out.1]; first | done | omega) HR.out.2.1.symm HR.out.2.2.symm, rfl⟩
    | false =>
      have HR := Lib.hid (dh_none h1 h4)
      go_enter Try.func45, Try.ntmps45
      go_wp2_with (first | (go_at_call 41; refine (c_within _ _ _ _).mono ?_; rintro e w' ⟨rfl, rfl⟩) | (go_at_call 39; refine (c_l1In _ _ _ _).mono ?_; rintro e w' ⟨rfl, rfl⟩))
      go_ret3
      exact ⟨ret_ibb HR.out.1.symm HR.out.2.1.symm HR.out.2.2.symm, rfl⟩
theorem c_specDecodeHeight (n : Int) (w : World) : Calls Try.prog 21 #[.int .i64 n] w fun e w' => e = .returned (.tuple #[.int .i64 (P.dhI n), .bool (P.dhF n), .bool (P.dhOk n)]) ∧ w = w' := by
  go_enter Try.func21, Try.ntmps21
  go_wp2_with (go_at_call 45; refine (c_l6Decode n _).mono ?_; rintro e w' ⟨rfl, rfl⟩)
  go_ret3
  exact ⟨rfl, rfl⟩
theorem l_FnExactDecodeHeight (n : Int) (hw : (Lit.int .i64 n).wf = true) (w : World) : Calls Try.prog 6 #[.int .i64 n] w fun e w' => e = .returned (.bool true) ∧ Below w.heap.size w w' := by
  clear hw
  go_enter Try.func6, Try.ntmps6
  go_wp2_with (first | (go_at_call 21; refine (c_specDecodeHeight n _).mono ?_; rintro e w' ⟨rfl, rfl⟩) | (go_at_call 22; refine (c_implDecodeHeight n _).mono ?_; rintro e w' ⟨rfl, rfl⟩))
  go_ret
  exact ⟨rfl, Below.refl _ _⟩
theorem c_gcd (a b : Nat) (w : World) (ha : a ≤ 999999999) (hb : b ≤ 999999999) : Calls Try.prog 61 #[.int .i64 a, .int .i64 b] w fun e w' => e = .returned (.int .i64 (Nat.gcd a b)) ∧ Qt w w' := by
  go_enter Try.func61, Try.ntmps61
  go_wp2
  go_loopw [0, 1] (fun x y wr => ∃ p q : Nat, p ≤ 999999999 ∧ q ≤ 999999999 ∧ x = .int .i64 p ∧ y = .int .i64 q ∧ Nat.gcd p q = Nat.gcd a b ∧ Qt w wr) (fun _ y _ => (intOf y).toNat)
  case atStart => exact ⟨a, b, ha, hb, rfl, rfl, rfl, Qt.refl _⟩
  case round =>
    obtain ⟨p, q, hp, hq, rfl, rfl, he, hqt⟩ := hrel
    have HE := Lib.hid he
    clear he
    by_cases h0 : q = 0
    · have hz : ((q : Int) != 0) = false := by rw [bne_eq_false_iff_eq]; omega
      have HR := Lib.hid (show p = Nat.gcd a b by rw [← HE.out, h0, Nat.gcd_zero_right])
      clear h0
      go_wp2
      go_ret
      exact ⟨ret_int (by rw [← HR.out]), hqt⟩
    · have hz : ((q : Int) != 0) = true := by rw [bne_iff_ne]; omega
      have hz2 : ((q : Int) == 0) = false := beq_eq_false_iff_ne.2 (by omega)
      have hq0 : 0 < q := by omega
      have HR := Lib.hid (show Nat.gcd q (p % q) = Nat.gcd a b by rw [← HE.out, Nat.gcd_comm p q, Nat.gcd_rec q p, Nat.gcd_comm])
      have hmod : p % q < q := Nat.mod_lt _ hq0
      obtain ⟨r, hr⟩ : ∃ r, p % q = r := ⟨_, rfl⟩
      rw [hr] at hmod
      have htm : (p : Int).tmod (q : Int) = (r : Int) := by rw [← hr]; exact (Int.ofNat_tmod p q).symm
      have hwr : IntKind.i64.wrap (r : Int) = (r : Int) := IntWalk.i64_in _ (by omega)
      have HRR := Lib.hid hr
      clear h0 hr
      go_wp2
      go_quiet (fail)
      go_wp2
      go_roundw
      case rel => exact ⟨q, r, hq, by omega, rfl, rfl, by rw [← HRR.out]; exact HR.out, hqt.trans (Qt.of _ _)⟩
      case measure => simp [intOf]; omega
theorem c_abs (n : Int) (w : World) (h : -999999999 ≤ n) (h2 : n ≤ 999999999) : Calls Try.prog 62 #[.int .i64 n] w fun e w' => e = .returned (.int .i64 n.natAbs) ∧ w = w' := by
  by_cases h0 : n < 0
  · have HN := Lib.hid (show ((n.natAbs : Nat) : Int) = -n by omega)
    go_enter Try.func62, Try.ntmps62
    go_wp2
    go_ret
    exact ⟨ret_int HN.out.symm, rfl⟩
  · have HN := Lib.hid (show ((n.natAbs : Nat) : Int) = n by omega)
    go_enter Try.func62, Try.ntmps62
    go_wp2
    go_ret
    exact ⟨ret_int HN.out.symm, rfl⟩
theorem c_l1Most_abs (n : Int) (w : World) (h : -999999999 ≤ n) (h2 : n ≤ 999999999) : Calls Try.prog 60 #[.int .i64 n, .int .i64 (-n)] w fun e w' => e = .returned (.int .i64 n.natAbs) ∧ w = w' := by
  by_cases h0 : -n < n
  · have HN := Lib.hid (show ((n.natAbs : Nat) : Int) = n by omega)
    go_enter Try.func60, Try.ntmps60
    go_wp2
    go_ret
    exact ⟨ret_int HN.out.symm, rfl⟩
  · have HN := Lib.hid (show ((n.natAbs : Nat) : Int) = -n by omega)
    go_enter Try.func60, Try.ntmps60
    go_wp2
    go_ret
    exact ⟨ret_int HN.out.symm, rfl⟩
theorem c_l1Least (a b : Int) (w : World) : Calls Try.prog 47 #[.int .i64 a, .int .i64 b] w fun e w' => e = .returned (.int .i64 (P.leastI a b)) ∧ w = w' := by
  by_cases h0 : a < b
  · have HN := Lib.hid (show P.leastI a b = a by unfold P.leastI; rw [if_pos h0])
    go_enter Try.func47, Try.ntmps47
    go_wp2
    go_ret
    exact ⟨ret_int HN.out.symm, rfl⟩
  · have HN := Lib.hid (show P.leastI a b = b by unfold P.leastI; rw [if_neg h0])
    go_enter Try.func47, Try.ntmps47
    go_wp2
    go_ret
    exact ⟨ret_int HN.out.symm, rfl⟩
theorem c_fraction (n : Int) (d : Nat) (w : World) (h : -999999999 ≤ n) (h2 : n ≤ 999999999) (hd : 0 < d) (hd2 : d ≤ 999999999) : Calls Try.prog 50 #[.int .i64 n, .int .i64 d] w fun e w' => e = .returned (.tuple #[.int .i64 (P.crN n d), .int .i64 (P.crD n d)]) ∧ Qt w w' := by
  have hg0 : 0 < P.crG n d := Nat.gcd_pos_of_pos_right _ hd
  have hgd : P.crG n d ≤ d := Nat.gcd_le_right _ hd
  have hN := P.tdiv_bd n (P.crG n d) 999999999 h h2
  have hD := P.tdiv_bd d (P.crG n d) 999999999 (by omega) (by omega)
  have hgc : Nat.gcd n.natAbs d = P.crG n d := rfl
  obtain ⟨N, hN1⟩ : ∃ N, n.tdiv (P.crG n d : Int) = N := ⟨_, rfl⟩
  obtain ⟨D, hD1⟩ : ∃ D, (d : Int).tdiv (P.crG n d : Int) = D := ⟨_, rfl⟩
  rw [hN1] at hN
  rw [hD1] at hD
  have hwN : IntKind.i64.wrap N = N := IntWalk.i64_in _ (by omega)
  have hwD : IntKind.i64.wrap D = D := IntWalk.i64_in _ (by omega)
  have HN := Lib.hid (show P.crN n d = N from hN1)
  have HD := Lib.hid (show P.crD n d = D from hD1)
  obtain ⟨g, hg⟩ : ∃ g, P.crG n d = g := ⟨_, rfl⟩
  rw [hg] at hg0 hgd hN1 hD1 hgc
  have hgz : ((g : Int) == 0) = false := beq_eq_false_iff_ne.2 (by omega)
  clear hN hD hg
  go_enter Try.func50, Try.ntmps50
  go_wp2_with (first | (go_at_call 62; refine (c_abs n _ h h2).mono ?_; rintro e w' ⟨rfl, rfl⟩) | (go_at_call 61; refine (c_gcd _ _ _ (by omega) hd2).mono ?_; rintro e w' ⟨rfl, hq⟩))
  go_quiet (fail)
  go_wp2
  go_ret2
  exact ⟨by rw [HN.out, HD.out]; rfl, hq.trans (Qt.of _ _)⟩
theorem c_l6Reduce (n : Int) (d : Nat) (w : World) (h : -999999999 ≤ n) (h2 : n ≤ 999999999) (hd : 0 < d) (hd2 : d ≤ 999999999) : Calls Try.prog 49 #[.int .i64 n, .int .i64 d] w fun e w' => e = .returned (.tuple #[.int .i64 (P.crN n d), .int .i64 (P.crD n d)]) ∧ Qt w w' := by
  have hg0 : 0 < P.crG n d := Nat.gcd_pos_of_pos_right _ hd
  have hgd : P.crG n d ≤ d := Nat.gcd_le_right _ hd
  have hN := P.tdiv_bd n (P.crG n d) 999999999 h h2
  have hD := P.tdiv_bd d (P.crG n d) 999999999 (by omega) (by omega)
  have hgc : Nat.gcd n.natAbs d = P.crG n d := rfl
  obtain ⟨N, hN1⟩ : ∃ N, n.tdiv (P.crG n d : Int) = N := ⟨_, rfl⟩
  obtain ⟨D, hD1⟩ : ∃ D, (d : Int).tdiv (P.crG n d : Int) = D := ⟨_, rfl⟩
  rw [hN1] at hN
  rw [hD1] at hD
  have hwN : IntKind.i64.wrap N = N := IntWalk.i64_in _ (by omega)
  have hwD : IntKind.i64.wrap D = D := IntWalk.i64_in _ (by omega)
  have HN := Lib.hid (show P.crN n d = N from hN1)
  have HD := Lib.hid (show P.crD n d = D from hD1)
  obtain ⟨g, hg⟩ : ∃ g, P.crG n d = g := ⟨_, rfl⟩
  rw [hg] at hg0 hgd hN1 hD1 hgc
  have hgz : ((g : Int) == 0) = false := beq_eq_false_iff_ne.2 (by omega)
  clear hN hD hg
  go_enter Try.func49, Try.ntmps49
  go_wp2_with (go_at_call 60; refine (c_l1Most_abs n _ h h2).mono ?_; rintro e w' ⟨rfl, rfl⟩)
  go_loop [6, 7] (fun x y => ∃ p q : Nat, p ≤ 999999999 ∧ q ≤ 999999999 ∧ x = .int .i64 p ∧ y = .int .i64 q ∧ Nat.gcd p q = g) (fun _ y => (intOf y).toNat)
  case atStart => exact ⟨n.natAbs, d, by omega, hd2, rfl, rfl, hgc⟩
  case round =>
    obtain ⟨p, q, hp, hq, rfl, rfl, he⟩ := hrel
    have HE := Lib.hid he
    clear he
    by_cases h0 : q = 0
    · have hz : ((q : Int) != 0) = false := by rw [bne_eq_false_iff_eq]; omega
      have HR := Lib.hid (show p = g by rw [← HE.out, h0, Nat.gcd_zero_right])
      have e := HR.out
      subst e
      clear h0
      go_wp2
      go_quiet (fail)
      go_wp2
      go_ret2
      exact ⟨by rw [HN.out, HD.out]; rfl, Qt.of _ _⟩
    · have hz : ((q : Int) != 0) = true := by rw [bne_iff_ne]; omega
      have hz2 : ((q : Int) == 0) = false := beq_eq_false_iff_ne.2 (by omega)
      have hq0 : 0 < q := by omega
      have HR := Lib.hid (show Nat.gcd q (p % q) = g by rw [← HE.out, Nat.gcd_comm p q, Nat.gcd_rec q p, Nat.gcd_comm])
      have hmod : p % q < q := Nat.mod_lt _ hq0
      clear h0
      go_wp2
      go_round
      case rel => exact ⟨q, p % q, hq, by omega, rfl, by go_num, HR.out⟩
      case measure =>
        simp only [intOf]
        rw [← Int.natCast_emod, Int.toNat_natCast, Int.toNat_natCast]
        exact hmod
set_option maxRecDepth 100000 in
theorem c_implNearestHeight (h : Int) (fine : Bool) (w : World) : Calls Try.prog 24 #[.int .i64 h, .bool fine] w fun e w' => e = .returned (.tuple #[.int .i64 (P.nhR h fine), .bool (P.nhOk h)]) ∧ w = w' := by
  cases hr : P.inB h (-2000) 130000 with
  | false =>
    have HE := Lib.hid (P.nhR_no fine hr)
    have HO := Lib.hid (show P.nhOk h = false from hr)
    go_enter Try.func24, Try.ntmps24
    go_wp2_with (first | (go_at_call 41; refine (c_within _ _ _ _).mono ?_; rintro e w' ⟨rfl, rfl⟩) | (go_at_call 48; go_in))
    go_ret2
    exact ⟨ret_ib HE.out.symm HO.out.symm, rfl⟩
  | true =>
    obtain ⟨h0, h1⟩ := P.inB_iff.1 hr
    have HO := Lib.hid (show P.nhOk h = true from hr)
    rw [HO.out]
    cases fine with
    | true =>
      have HE := Lib.hid (P.nhR_fine hr)
      by_cases hlo : h < -1000
      · go_enter Try.func24, Try.ntmps24
        go_wp2_with (first | (go_at_call 41; refine (c_within _ _ _ _).mono ?_; rintro e w' ⟨rfl, rfl⟩) | (go_at_call 48; go_in) | go_in)
        all_goals
          go_ret2
          exact ⟨ret_ib (by rw [HE.out]; unfold P.nhS; omega) rfl, rfl⟩
      · by_cases hhi : 50175 < h
        · go_enter Try.func24, Try.ntmps24
          go_wp2_with (first | (go_at_call 41; refine (c_within _ _ _ _).mono ?_; rintro e w' ⟨rfl, rfl⟩) | (go_at_call 48; go_in) | go_in)
          all_goals
            go_ret2
            exact ⟨ret_ib (by rw [HE.out]; unfold P.nhS; omega) rfl, rfl⟩
        · go_enter Try.func24, Try.ntmps24
          go_wp2_with (first | (go_at_call 41; refine (c_within _ _ _ _).mono ?_; rintro e w' ⟨rfl, rfl⟩) | (go_at_call 48; go_in) | go_in)
          all_goals
            go_ret2
            exact ⟨ret_ib (by rw [HE.out]; unfold P.nhS; omega) rfl, rfl⟩
    | false =>
      have HE := Lib.hid (P.nhR_coarse hr)
      by_cases hlo : h < -1200
      · go_enter Try.func24, Try.ntmps24
        go_wp2_with (first | (go_at_call 41; refine (c_within _ _ _ _).mono ?_; rintro e w' ⟨rfl, rfl⟩) | (go_at_call 48; go_in) | go_in)
        all_goals
          go_ret2
          exact ⟨ret_ib (by rw [HE.out]; unfold P.nhS; omega) rfl, rfl⟩
      · by_cases hhi : 126700 < h
        · go_enter Try.func24, Try.ntmps24
          go_wp2_with (first | (go_at_call 41; refine (c_within _ _ _ _).mono ?_; rintro e w' ⟨rfl, rfl⟩) | (go_at_call 48; go_in) | go_in)
          all_goals
            go_ret2
            exact ⟨ret_ib (by rw [HE.out]; unfold P.nhS; omega) rfl, rfl⟩
        · go_enter Try.func24, Try.ntmps24
          go_wp2_with (first | (go_at_call 41; refine (c_within _ _ _ _).mono ?_; rintro e w' ⟨rfl, rfl⟩) | (go_at_call 48; go_in) | go_in)
          all_goals
            go_ret2
            exact ⟨ret_ib (by rw [HE.out]; unfold P.nhS; omega) rfl, rfl⟩
set_option maxRecDepth 100000 in
theorem c_specNearestHeight (h : Int) (fine : Bool) (w : World) : Calls Try.prog 23 #[.int .i64 h, .bool fine] w fun e w' => e = .returned (.tuple #[.int .i64 (P.nhR h fine), .bool (P.nhOk h)]) ∧ w = w' := by
  cases hr : P.inB h (-2000) 130000 with
  | false =>
    have HE := Lib.hid (P.nhR_no fine hr)
    have HO := Lib.hid (show P.nhOk h = false from hr)
    go_enter Try.func23, Try.ntmps23
    go_wp2_with (first | (go_at_call 39; refine (c_l1In _ _ _ _).mono ?_; rintro e w' ⟨rfl, rfl⟩) | (go_at_call 46; go_in))
    go_ret2
    exact ⟨ret_ib HE.out.symm HO.out.symm, rfl⟩
  | true =>
    obtain ⟨h0, h1⟩ := P.inB_iff.1 hr
    have HO := Lib.hid (show P.nhOk h = true from hr)
    rw [HO.out]
    cases fine with
    | true =>
      have HE := Lib.hid (P.nhR_fine hr)
      by_cases hlo : h < -1000
      · go_enter Try.func23, Try.ntmps23
        go_wp2_with (first | (go_at_call 39; refine (c_l1In _ _ _ _).mono ?_; rintro e w' ⟨rfl, rfl⟩) | (go_at_call 46; go_in))
        go_ret2
        exact ⟨ret_ib (by rw [HE.out]; unfold P.nhS; omega) rfl, rfl⟩
      · obtain ⟨M, hM⟩ : ∃ M, P.leastI ((h + 1000 + 12) / 25) 2047 = M := ⟨_, rfl⟩
        have hM0 : 0 ≤ M ∧ M ≤ 2047 := by rw [← hM]; unfold P.leastI; omega
        have HV := Lib.hid (show P.nhR h true = -1000 + 25 * M by
          rw [HE.out, ← hM]; unfold P.nhS P.leastI; omega)
        obtain ⟨hM1, hM2⟩ := hM0
        go_enter Try.func23, Try.ntmps23
        go_wp2_with (first | (go_at_call 39; refine (c_l1In _ _ _ _).mono ?_; rintro e w' ⟨rfl, rfl⟩) | (go_at_call 46; go_in) | (go_at_call 47; refine (c_l1Least _ _ _).mono ?_; rintro e w' ⟨rfl, rfl⟩))
        go_ret2
        exact ⟨ret_ib (by rw [HV.out]) rfl, rfl⟩
    | false =>
      have HE := Lib.hid (P.nhR_coarse hr)
      by_cases hlo : h < -1200
      · go_enter Try.func23, Try.ntmps23
        go_wp2_with (first | (go_at_call 39; refine (c_l1In _ _ _ _).mono ?_; rintro e w' ⟨rfl, rfl⟩) | (go_at_call 46; go_in))
        go_ret2
        exact ⟨ret_ib (by rw [HE.out]; unfold P.nhS; omega) rfl, rfl⟩
      · obtain ⟨M, hM⟩ : ∃ M, P.leastI ((h + 1200 + 49) / 100) 1279 = M := ⟨_, rfl⟩
        have hM0 : 0 ≤ M ∧ M ≤ 1279 := by rw [← hM]; unfold P.leastI; omega
        have HV := Lib.hid (show P.nhR h false = -1200 + 100 * M by
          rw [HE.out, ← hM]; unfold P.nhS P.leastI; omega)
        obtain ⟨hM1, hM2⟩ := hM0
        go_enter Try.func23, Try.ntmps23
        go_wp2_with (first | (go_at_call 39; refine (c_l1In _ _ _ _).mono ?_; rintro e w' ⟨rfl, rfl⟩) | (go_at_call 46; go_in) | (go_at_call 47; refine (c_l1Least _ _ _).mono ?_; rintro e w' ⟨rfl, rfl⟩))
        go_ret2
        exact ⟨ret_ib (by rw [HV.out]) rfl, rfl⟩
theorem l_FnExactNearestHeight (h : Int) (fine : Bool) (hw : (Lit.int .i64 h).wf = true) (w : World) : Calls Try.prog 7 #[.int .i64 h, .bool fine] w fun e w' => e = .returned (.bool true) ∧ Below w.heap.size w w' := by
  clear hw
  go_enter Try.func7, Try.ntmps7
  go_wp2_with (first | (go_at_call 23; refine (c_specNearestHeight h fine _).mono ?_; rintro e w' ⟨rfl, rfl⟩) | (go_at_call 24; refine (c_implNearestHeight h fine _).mono ?_; rintro e w' ⟨rfl, rfl⟩))
  go_ret
  exact ⟨rfl, Below.refl _ _⟩
/-- when a climb rate is told -/
def clOk (a f b t : Int) : Bool := P.inB a (-2000) 130000 && P.inB b (-2000) 130000 && P.inB f 0 86400 && P.inB t (f + 1) 86400
def clN (a f b t : Int) : Int := if clOk a f b t = true then P.crN (60 * (b - a)) (t - f).toNat else 0
def clD (a f b t : Int) : Int := if clOk a f b t = true then P.crD (60 * (b - a)) (t - f).toNat else 0
theorem cl_no {a f b t : Int} (h : clOk a f b t = false) : clN a f b t = 0 ∧ clD a f b t = 0 := by unfold clN clD; rw [h]; exact ⟨rfl, rfl⟩
theorem cl_yes {a f b t : Int} (h : clOk a f b t = true) : clN a f b t = P.crN (60 * (b - a)) (t - f).toNat ∧ clD a f b t = P.crD (60 * (b - a)) (t - f).toNat := by unfold clN clD; rw [h]; exact ⟨rfl, rfl⟩
theorem c_implClimbRate (a f b t : Int) (w : World) : Calls Try.prog 26 #[.int .i64 a, .int .i64 f, .int .i64 b, .int .i64 t] w fun e w' => e = .returned (.tuple #[.int .i64 (clN a f b t), .int .i64 (clD a f b t), .bool (clOk a f b t)]) ∧ Qt w w' := by
  cases ha : P.inB a (-2000) 130000 with
  | false =>
    have HF := Lib.hid (show clOk a f b t = false by unfold clOk; rw [ha]; rfl)
    go_enter Try.func26, Try.ntmps26
    go_wp2_with (first | (go_at_call 41; refine (c_within _ _ _ _).mono ?_; rintro e w' ⟨rfl, rfl⟩) | (go_at_call 39; refine (c_l1In _ _ _ _).mono ?_; rintro e w' ⟨rfl, rfl⟩) | (go_at_call 48; go_in) | (go_at_call 46; go_in))
    go_ret3
    exact ⟨ret_iib (cl_no HF.out).1.symm (cl_no HF.out).2.symm HF.out.symm, Qt.refl _⟩
  | true =>
    cases hb : P.inB b (-2000) 130000 with
    | false =>
      have HF := Lib.hid (show clOk a f b t = false by unfold clOk; rw [ha, hb]; rfl)
      go_enter Try.func26, Try.ntmps26
      go_wp2_with (first | (go_at_call 41; refine (c_within _ _ _ _).mono ?_; rintro e w' ⟨rfl, rfl⟩) | (go_at_call 39; refine (c_l1In _ _ _ _).mono ?_; rintro e w' ⟨rfl, rfl⟩) | (go_at_call 48; go_in) | (go_at_call 46; go_in))
      go_ret3
      exact ⟨ret_iib (cl_no HF.out).1.symm (cl_no HF.out).2.symm HF.out.symm, Qt.refl _⟩
    | true =>
      cases hf : P.inB f 0 86400 with
      | false =>
        have HF := Lib.hid (show clOk a f b t = false by unfold clOk; rw [ha, hb, hf]; rfl)
        go_enter Try.func26, Try.ntmps26
        go_wp2_with (first | (go_at_call 41; refine (c_within _ _ _ _).mono ?_; rintro e w' ⟨rfl, rfl⟩) | (go_at_call 39; refine (c_l1In _ _ _ _).mono ?_; rintro e w' ⟨rfl, rfl⟩) | (go_at_call 48; go_in) | (go_at_call 46; go_in))
        go_ret3
        exact ⟨ret_iib (cl_no HF.out).1.symm (cl_no HF.out).2.symm HF.out.symm, Qt.refl _⟩
      | true =>
        obtain ⟨f0, f1⟩ := P.inB_iff.1 hf
        cases ht : P.inB t (f + 1) 86400 with
        | false =>
          have HF := Lib.hid (show clOk a f b t = false by unfold clOk; rw [ha, hb, hf, ht]; rfl)
          go_enter Try.func26, Try.ntmps26
          go_wp2_with (first | (go_at_call 41; refine (c_within _ _ _ _).mono ?_; rintro e w' ⟨rfl, rfl⟩) | (go_at_call 39; refine (c_l1In _ _ _ _).mono ?_; rintro e w' ⟨rfl, rfl⟩) | (go_at_call 48; go_in) | (go_at_call 46; go_in))
          go_ret3
          exact ⟨ret_iib (cl_no HF.out).1.symm (cl_no HF.out).2.symm HF.out.symm, Qt.refl _⟩
        | true =>
          obtain ⟨t0, t1⟩ := P.inB_iff.1 ht
          obtain ⟨a0, a1⟩ := P.inB_iff.1 ha
          obtain ⟨b0, b1⟩ := P.inB_iff.1 hb
          have HY := Lib.hid (show clOk a f b t = true by unfold clOk; rw [ha, hb, hf, ht]; rfl)
          obtain ⟨d, hd⟩ : ∃ d : Nat, t - f = (d : Int) := ⟨(t - f).toNat, by omega⟩
          have HD := Lib.hid (show (t - f).toNat = d by omega)
          have hd0 : 0 < d := by omega
          have hd1 : d ≤ 86400 := by omega
          go_enter Try.func26, Try.ntmps26
          go_wp2_with (first | (go_at_call 41; refine (c_within _ _ _ _).mono ?_; rintro e w' ⟨rfl, rfl⟩) | (go_at_call 39; refine (c_l1In _ _ _ _).mono ?_; rintro e w' ⟨rfl, rfl⟩) | (go_at_call 48; go_in) | (go_at_call 46; go_in) | (go_at_call 50; refine (c_fraction (60 * (b - a)) d _ (by omega) (by omega) hd0 (by omega)).mono ?_; rintro e w' ⟨rfl, hq⟩))
          go_ret3
          exact ⟨ret_iib (by rw [(cl_yes HY.out).1, HD.out]) (by rw [(cl_yes HY.out).2, HD.out]) HY.out.symm, hq⟩
theorem c_specClimbRate (a f b t : Int) (w : World) : Calls Try.prog 25 #[.int .i64 a, .int .i64 f, .int .i64 b, .int .i64 t] w fun e w' => e = .returned (.tuple #[.int .i64 (clN a f b t), .int .i64 (clD a f b t), .bool (clOk a f b t)]) ∧ Qt w w' := by
  cases ha : P.inB a (-2000) 130000 with
  | false =>
    have HF := Lib.hid (show clOk a f b t = false by unfold clOk; rw [ha]; rfl)
    go_enter Try.func25, Try.ntmps25
    go_wp2_with (first | (go_at_call 41; refine (c_within _ _ _ _).mono ?_; rintro e w' ⟨rfl, rfl⟩) | (go_at_call 39; refine (c_l1In _ _ _ _).mono ?_; rintro e w' ⟨rfl, rfl⟩) | (go_at_call 48; go_in) | (go_at_call 46; go_in))
    go_ret3
    exact ⟨ret_iib (cl_no HF.out).1.symm (cl_no HF.out).2.symm HF.out.symm, Qt.refl _⟩
  | true =>
    cases hb : P.inB b (-2000) 130000 with
    | false =>
      have HF := Lib.hid (show clOk a f b t = false by unfold clOk; rw [ha, hb]; rfl)
      go_enter Try.func25, Try.ntmps25
      go_wp2_with (first | (go_at_call 41; refine (c_within _ _ _ _).mono ?_; rintro e w' ⟨rfl, rfl⟩) | (go_at_call 39; refine (c_l1In _ _ _ _).mono ?_; rintro e w' ⟨rfl, rfl⟩) | (go_at_call 48; go_in) | (go_at_call 46; go_in))
      go_ret3
      exact ⟨ret_iib (cl_no HF.out).1.symm (cl_no HF.out).2.symm HF.out.symm, Qt.refl _⟩
    | true =>
      by_cases hv : 0 ≤ f ∧ f < t ∧ t ≤ 86400
      · obtain ⟨f0, f1, t1⟩ := hv
        obtain ⟨a0, a1⟩ := P.inB_iff.1 ha
        obtain ⟨b0, b1⟩ := P.inB_iff.1 hb
        have HY := Lib.hid (show clOk a f b t = true by unfold clOk; rw [ha, hb, P.inB_iff.2 (show 0 ≤ f ∧ f ≤ 86400 by omega), P.inB_iff.2 (show f + 1 ≤ t ∧ t ≤ 86400 by omega)]; rfl)
        obtain ⟨d, hd⟩ : ∃ d : Nat, t - f = (d : Int) := ⟨(t - f).toNat, by omega⟩
        have HD := Lib.hid (show (t - f).toNat = d by omega)
        have hd0 : 0 < d := by omega
        have hd1 : d ≤ 86400 := by omega
        go_enter Try.func25, Try.ntmps25
        go_wp2_with (first | (go_at_call 41; refine (c_within _ _ _ _).mono ?_; rintro e w' ⟨rfl, rfl⟩) | (go_at_call 39; refine (c_l1In _ _ _ _).mono ?_; rintro e w' ⟨rfl, rfl⟩) | (go_at_call 48; go_in) | (go_at_call 46; go_in) | (go_at_call 49; refine (c_l6Reduce (60 * (b - a)) d _ (by omega) (by omega) hd0 (by omega)).mono ?_; rintro e w' ⟨rfl, hq⟩))
        go_ret3
        exact ⟨ret_iib (by rw [(cl_yes HY.out).1, HD.out]) (by rw [(cl_yes HY.out).2, HD.out]) HY.out.symm, hq⟩
      · have HF := Lib.hid (show clOk a f b t = false by
          rw [Bool.eq_false_iff]; intro e
          unfold clOk at e
          simp only [Bool.and_eq_true] at e
          have h1 := P.inB_iff.1 e.1.2
          have h2 := P.inB_iff.1 e.2
          omega)
        have hv' : f < 0 ∨ (0 ≤ f ∧ t ≤ f) ∨ (0 ≤ f ∧ f < t ∧ 86400 < t) := by omega
        clear hv
        rcases hv' with h | ⟨h, h1⟩ | ⟨h, h1, h2⟩
        all_goals
          go_enter Try.func25, Try.ntmps25
          go_wp2_with (first | (go_at_call 41; refine (c_within _ _ _ _).mono ?_; rintro e w' ⟨rfl, rfl⟩) | (go_at_call 39; refine (c_l1In _ _ _ _).mono ?_; rintro e w' ⟨rfl, rfl⟩) | (go_at_call 48; go_in) | (go_at_call 46; go_in))
          go_ret3
          exact ⟨ret_iib (cl_no HF.out).1.symm (cl_no HF.out).2.symm HF.out.symm, Qt.refl _⟩
theorem l_FnExactClimbRate (a f b t : Int) (w : World) (wa : (Lit.int .i64 a).wf = true) (wf : (Lit.int .i64 f).wf = true) (wb : (Lit.int .i64 b).wf = true) (wt : (Lit.int .i64 t).wf = true) :
    Calls Try.prog 8 #[.int .i64 a, .int .i64 f, .int .i64 b, .int .i64 t] w fun e w' => e = .returned (.bool true) ∧ Below w.heap.size w w' := by
  clear wa wb wt wf
  go_enter Try.func8, Try.ntmps8
  go_wp2_with (first | (go_at_call 25; refine (c_specClimbRate a f b t _).mono ?_; rintro e w1 ⟨rfl, hq1⟩) | (go_at_call 26; refine (c_implClimbRate a f b t _).mono ?_; rintro e w2 ⟨rfl, hq2⟩))
  go_ret
  exact ⟨rfl, (hq1.trans hq2).below _⟩
end Go.Proofs.Ytdcmegijokamkaa
