/-
  Contracts of the functions that append and verify checksums.
-/
import Derived.Test.YtfbanjmooknafaaT
import Derived.Test.YtfbanjmooknafaaS
import Derived.Test.YtfbanjmooknafaaC1
namespace Go.Proofs.Ytfbanjmooknafaa
open Go.RowKit
set_option linter.unusedSimpArgs false
set_option linter.unusedVariables false

theorem slT_size (s : ByteArray) : (P.slT (B s)).length ≤ s.size + 7 := by
  have := P.dec_len 6 (P.ck (B s)) (by omega) (by have := P.ck_lt (B s); omega)
  rw [P.slT_len, B_len]; omega
theorem txt_ck (l : List UInt8) : P.txt (P.ck l : Int) = P.dec (P.ck l) := by unfold P.txt; rw [if_neg (by omega), Int.toNat_natCast]
theorem c_l1Seal (s : ByteArray) (w : World) (hs : s.size ≤ 2097152) : Calls Try.prog 164 #[.string s] w fun e w' => e = .returned (.string (bs (P.slT (B s)))) ∧ Qt w w' := by
  have hck := P.ck_lt (B s)
  have hl := B_len s
  have hdl := P.dec_len 6 (P.ck (B s)) (by omega) (by omega)
  have hadd1 : ∀ W, (Op.stringOp .add s ⟨#[35]⟩).run Try.prog W = .ok (.string (bs (B s ++ [35]))) W := fun W => run_add_s W s (bs [35]) (by rw [B_bs, hl]; simp; omega)
  have hadd2 : ∀ W, (Op.stringOp .add (bs (B s ++ [35])) (bs (P.txt (P.ck (B s) : Int)))).run Try.prog W = .ok (.string (bs (P.slT (B s)))) W := fun W => by
    rw [run_add W _ _ (by rw [txt_ck, List.length_append, hl]; simp; omega), txt_ck]
    unfold P.slT; simp
  clear hdl hl
  go_enter Try.func164, Try.ntmps164
  go_wp2_with (first | (go_at_call 211; refine (c_l1Sum s _ (by unfold maxLen; omega)).mono ?_; rintro e w' ⟨rfl, rfl⟩) | (go_at_call 160; refine (c_l1Num _ _ (by omega) (by omega)).mono ?_; rintro e w' ⟨rfl, hq⟩))
  go_ret
  exact ⟨rfl, hq⟩
theorem acOk_long {s : ByteArray} (h : 4000 < s.size) : P.acOk (B s) = false := by
  unfold P.acOk; rw [B_len, decide_eq_false (by omega)]; rfl
theorem acOk_has {s : ByteArray} (h : P.hasB 35 (B s) = true) : P.acOk (B s) = false := by
  unfold P.acOk; rw [h]; simp
theorem acOk_seal {s : ByteArray} (h : 4000 < (P.slT (B s)).length) : P.acOk (B s) = false := by
  unfold P.acOk; rw [decide_eq_false (p := (P.slT (B s)).length ≤ 4000) (by omega)]; simp
theorem acOk_yes {s : ByteArray} (h1 : s.size ≤ 4000) (h2 : P.hasB 35 (B s) = false) (h3 : (P.slT (B s)).length ≤ 4000) : P.acOk (B s) = true := by
  unfold P.acOk; rw [B_len, h2, decide_eq_true h1, decide_eq_true h3]; rfl
theorem acT_no {l : List UInt8} (h : P.acOk l = false) : P.acT l = [] := by unfold P.acT; rw [h]; rfl
theorem acT_yes {l : List UInt8} (h : P.acOk l = true) : P.acT l = P.slT l := by unfold P.acT; rw [h]; rfl
theorem ret_bsb {a b : List UInt8} {c d : Bool} (h : a = b) (h2 : c = d) : Ending.returned (.tuple #[.string (bs a), .bool c]) = .returned (.tuple #[.string (bs b), .bool d]) := by rw [h, h2]
theorem c_specAppendChecksum (s : ByteArray) (w : World) (hs : s.size ≤ 2097152) : Calls Try.prog 52 #[.string s] w fun e w' => e = .returned (.tuple #[.string (bs (P.acT (B s))), .bool (P.acOk (B s))]) ∧ Qt w w' := by
  by_cases h4 : 4000 < s.size
  · have HF := Lib.hid (acOk_long h4)
    go_enter Try.func52, Try.ntmps52
    go_wp2
    go_ret2
    exact ⟨ret_bsb (acT_no HF.out).symm HF.out.symm, Qt.refl _⟩
  · cases hh : P.hasB 35 (B s) with
    | true =>
      have HF := Lib.hid (acOk_has hh)
      go_enter Try.func52, Try.ntmps52
      go_wp2_with (first | (go_at_call 155; refine (c_l1Stands s 35 _ (by unfold maxLen; omega)).mono ?_; rintro e w' ⟨rfl, rfl⟩))
      go_ret2
      exact ⟨ret_bsb (acT_no HF.out).symm HF.out.symm, Qt.refl _⟩
    | false =>
      obtain ⟨L, hL⟩ : ∃ L, bs (P.slT (B s)) = L := ⟨_, rfl⟩
      have hLs : L.size = (P.slT (B s)).length := by rw [← hL, bs_size]
      by_cases h3 : 4000 < L.size
      · have HF := Lib.hid (acOk_seal (s := s) (by omega))
        clear hLs
        go_enter Try.func52, Try.ntmps52
        go_wp2_with (first | (go_at_call 155; refine (c_l1Stands s 35 _ (by unfold maxLen; omega)).mono ?_; rintro e w' ⟨rfl, rfl⟩) | (go_at_call 164; refine (c_l1Seal s _ hs).mono ?_; rintro e w' ⟨rfl, hq⟩))
        go_ret2
        exact ⟨ret_bsb (acT_no HF.out).symm HF.out.symm, hq⟩
      · have HT := Lib.hid (acOk_yes (s := s) (by omega) hh (by omega))
        have HL := Lib.hid hL
        clear hLs
        go_enter Try.func52, Try.ntmps52
        go_wp2_with (first | (go_at_call 155; refine (c_l1Stands s 35 _ (by unfold maxLen; omega)).mono ?_; rintro e w' ⟨rfl, rfl⟩) | (go_at_call 164; refine (c_l1Seal s _ hs).mono ?_; rintro e w' ⟨rfl, hq⟩))
        go_ret2
        exact ⟨ret_sb (by rw [← HL.out, B_bs, acT_yes HT.out]; rfl) HT.out.symm, Qt.trans (by assumption) hq⟩
theorem ckI_long {s : ByteArray} (h : 4000 < s.size) : P.ckI (B s) = 0 ∧ P.ckOk (B s) = false := by
  unfold P.ckI P.ckOk; rw [B_len]; exact ⟨if_neg (by omega), by simpa using h⟩
theorem ckI_short {s : ByteArray} (h : ¬ 4000 < s.size) : P.ckI (B s) = P.ck (B s) ∧ P.ckOk (B s) = true := by
  unfold P.ckI P.ckOk; rw [B_len]; exact ⟨if_pos (by omega), by simpa using h⟩
theorem c_implAppendChecksum (s : ByteArray) (w : World) (hs : s.size ≤ 2097152) : Calls Try.prog 51 #[.string s] w fun e w' => e = .returned (.tuple #[.string (bs (P.acT (B s))), .bool (P.acOk (B s))]) ∧ Below w.heap.size w w' := by
  have hl := B_len s
  have hck := P.ck_lt (B s)
  have hadd1 : ∀ W, (Op.stringOp .add s ⟨#[35]⟩).run Try.prog W = .ok (.string (bs (B s ++ [35]))) W := fun W => run_add_s W s (bs [35]) (by rw [B_bs, hl]; simp; omega)
  by_cases h4 : 4000 < s.size
  · have HF := Lib.hid (acOk_long h4)
    obtain ⟨k1, k2⟩ := ckI_long h4
    have hadd2 : ∀ W, (Op.stringOp .add (bs (B s ++ [35])) (bs (P.txt 0))).run Try.prog W = .ok (.string (bs (B s ++ [35] ++ P.txt 0))) W := fun W =>
      run_add W _ _ (by have := P.txt_len (n := 0) (by omega) (by omega)
                        rw [List.length_append, hl]; simp; omega)
    clear hl hck
    go_enter Try.func51, Try.ntmps51
    go_wp2_with (first | (go_at_call 163; refine (c_implChecksum s _ (by unfold maxLen; omega)).mono ?_; rintro e w' ⟨rfl, rfl⟩) | (go_at_call 159; refine (c_text _ _ (by omega) (by omega)).mono ?_; rintro e w1 ⟨rfl, hb1⟩))
    go_ret2
    exact ⟨ret_bsb (acT_no HF.out).symm HF.out.symm, hb1⟩
  · obtain ⟨k1, k2⟩ := ckI_short h4
    have hss := slT_size s
    obtain ⟨L, hL⟩ : ∃ L, bs (P.slT (B s)) = L := ⟨_, rfl⟩
    have hLs : L.size = (P.slT (B s)).length := by rw [← hL, bs_size]
    have hadd2 : ∀ W, (Op.stringOp .add (bs (B s ++ [35])) (bs (P.txt (P.ck (B s) : Int)))).run Try.prog W = .ok (.string L) W := fun W => by
      rw [run_add W _ _ (by
        have := P.dec_len 6 (P.ck (B s)) (by omega) (by omega)
        rw [txt_ck, List.length_append, hl]; simp; omega), txt_ck, ← hL]
      unfold P.slT; simp
    obtain ⟨n, hn⟩ : ∃ n, (P.spl 35 (B s)).length = n := ⟨_, rfl⟩
    have hlong := P.spl_long 35 (B s)
    rw [hn] at hlong
    have HL := Lib.hid hL
    clear hl hL
    cases hh : P.hasB 35 (B s) with
    | true =>
      have HF := Lib.hid (acOk_has hh)
      have hn1 : 1 < n := by
        have : decide (1 < n) = P.hasB 35 (B s) := hlong
        rw [hh] at this; simpa using this
      clear hlong hLs hss
      go_enter Try.func51, Try.ntmps51
      go_wp2_with (first | (go_at_call 163; refine (c_implChecksum s _ (by unfold maxLen; omega)).mono ?_; rintro e w' ⟨rfl, rfl⟩) | (go_at_call 159; refine (c_text _ _ (by omega) (by omega)).mono ?_; rintro e w1 ⟨rfl, hb1⟩) | (go_at_call 153; refine (c_split s 35 _ hs).mono ?_; rintro e w2 ⟨g, cap, rfl, _, hb2⟩))
      go_ret2
      exact ⟨ret_bsb (acT_no HF.out).symm HF.out.symm, hb1.trans (hb2.mono hb1.size)⟩
    | false =>
      have hn1 : ¬ 1 < n := by
        have : decide (1 < n) = P.hasB 35 (B s) := hlong
        rw [hh] at this; simpa using this
      by_cases h3 : 4000 < L.size
      · have HF := Lib.hid (acOk_seal (s := s) (by omega))
        clear hlong hLs hss
        go_enter Try.func51, Try.ntmps51
        go_wp2_with (first | (go_at_call 163; refine (c_implChecksum s _ (by unfold maxLen; omega)).mono ?_; rintro e w' ⟨rfl, rfl⟩) | (go_at_call 159; refine (c_text _ _ (by omega) (by omega)).mono ?_; rintro e w1 ⟨rfl, hb1⟩) | (go_at_call 153; refine (c_split s 35 _ hs).mono ?_; rintro e w2 ⟨g, cap, rfl, _, hb2⟩))
        go_ret2
        exact ⟨ret_bsb (acT_no HF.out).symm HF.out.symm, hb1.trans (hb2.mono hb1.size)⟩
      · have HT := Lib.hid (acOk_yes (s := s) (by omega) hh (by omega))
        clear hlong hLs hss
        go_enter Try.func51, Try.ntmps51
        go_wp2_with (first | (go_at_call 163; refine (c_implChecksum s _ (by unfold maxLen; omega)).mono ?_; rintro e w' ⟨rfl, rfl⟩) | (go_at_call 159; refine (c_text _ _ (by omega) (by omega)).mono ?_; rintro e w1 ⟨rfl, hb1⟩) | (go_at_call 153; refine (c_split s 35 _ hs).mono ?_; rintro e w2 ⟨g, cap, rfl, _, hb2⟩))
        go_ret2
        exact ⟨ret_sb (by rw [← HL.out, B_bs, acT_yes HT.out]; rfl) HT.out.symm, hb1.trans (hb2.mono hb1.size)⟩
theorem row_head {w : World} {base T g cap : Nat} {b : UInt8} {l : List UInt8} (h : w.ownsRow base T 1 (.slice (some ⟨g, 0, none⟩) ((P.spl b l).map vs).length cap) ((P.spl b l).map vs).length ((P.spl b l).map vs)) :
    w.cell? ⟨g, 0, none⟩ = some (.string (bs (P.hd b l))) := by
  have hp : 0 < (P.spl b l).length := by rw [P.spl_len]; omega
  rw [h.cellAt 0 (by rw [List.length_map]; omega), List.getElem?_map, ← List.head?_eq_getElem?, P.spl_head]; rfl
theorem vc_long {s : ByteArray} (h : 4000 < s.size) : P.vcOk (B s) = false := by
  unfold P.vcOk; rw [B_len, decide_eq_false (by omega)]; rfl
theorem vc_no {l : List UInt8} (h : P.slT (P.hd 35 l) ≠ l) : P.vcOk l = false := by
  unfold P.vcOk; rw [decide_eq_false h]; simp
theorem vc_yes {s : ByteArray} (h4 : ¬ 4000 < s.size) (h : P.slT (P.hd 35 (B s)) = B s) : P.vcOk (B s) = true := by
  unfold P.vcOk; rw [decide_eq_true h, B_len, decide_eq_true (by omega)]; rfl
theorem vcT_no {l : List UInt8} (h : P.vcOk l = false) : P.vcT l = [] := by unfold P.vcT; rw [h]; rfl
theorem vcT_yes {l : List UInt8} (h : P.vcOk l = true) : P.vcT l = P.hd 35 l := by unfold P.vcT; rw [h]; rfl
theorem c_implVerifyChecksum (s : ByteArray) (w : World) (hs : s.size ≤ 2097152) : Calls Try.prog 53 #[.string s] w fun e w' => e = .returned (.tuple #[.string (bs (P.vcT (B s))), .bool (P.vcOk (B s))]) ∧ Below w.heap.size w w' := by
  by_cases h4 : 4000 < s.size
  · have HF := Lib.hid (vc_long h4)
    go_enter Try.func53, Try.ntmps53
    go_wp2
    go_ret2
    exact ⟨ret_bsb (vcT_no HF.out).symm HF.out.symm, Below.refl _ _⟩
  · have hp : 0 < (P.spl 35 (B s)).length := by rw [P.spl_len]; omega
    obtain ⟨T, hT⟩ : ∃ T, bs (P.hd 35 (B s)) = T := ⟨_, rfl⟩
    have hBT : B T = P.hd 35 (B s) := by rw [← hT, B_bs]
    have hTs : T.size ≤ 4000 := by
      have := P.hd_len 35 (B s)
      rw [← B_len, hBT]; rw [B_len] at this; omega
    have hno : P.hasB 35 (B T) = false := P.hasB_no.2 (by rw [hBT]; exact P.hd_free 35 (B s))
    by_cases hv : P.slT (B T) = B s
    · have HT := Lib.hid (vc_yes h4 (by rw [← hBT]; exact hv))
      have hok := acOk_yes (s := T) hTs hno (by rw [hv, B_len]; omega)
      have hat := acT_yes hok
      have hcmp := cmp_eq (a := bs (P.slT (B T))) (b := s) hv
      have HB := Lib.hid hBT
      clear hv hBT hno
      go_enter Try.func53, Try.ntmps53
      go_wp2_with (first | (go_at_call 153; refine (c_split s 35 _ hs).mono ?_; rintro e w2 ⟨g, cap, rfl, hown, hb2⟩; have hc0 := row_head hown; clear hown) | (go_at_call 51; refine (c_implAppendChecksum T _ (by omega)).mono ?_; rintro e w' ⟨rfl, hb3⟩))
      go_ret2
      exact ⟨ret_sb (by rw [HB.out, B_bs, vcT_yes HT.out]) HT.out.symm, hb2.trans (hb3.mono hb2.size)⟩
    · have HF := Lib.hid (vc_no (l := B s) (by rw [← hBT]; exact hv))
      cases hok : P.acOk (B T) with
      | true =>
        have hat := acT_yes hok
        have hcmp := cmp_ne (a := bs (P.slT (B T))) (b := s) hv
        clear hv hBT hno
        go_enter Try.func53, Try.ntmps53
        go_wp2_with (first | (go_at_call 153; refine (c_split s 35 _ hs).mono ?_; rintro e w2 ⟨g, cap, rfl, hown, hb2⟩; have hc0 := row_head hown; clear hown) | (go_at_call 51; refine (c_implAppendChecksum T _ (by omega)).mono ?_; rintro e w' ⟨rfl, hb3⟩))
        go_ret2
        exact ⟨ret_bsb (vcT_no HF.out).symm HF.out.symm, hb2.trans (hb3.mono hb2.size)⟩
      | false =>
        clear hv hBT hno
        go_enter Try.func53, Try.ntmps53
        go_wp2_with (first | (go_at_call 153; refine (c_split s 35 _ hs).mono ?_; rintro e w2 ⟨g, cap, rfl, hown, hb2⟩; have hc0 := row_head hown; clear hown) | (go_at_call 51; refine (c_implAppendChecksum T _ (by omega)).mono ?_; rintro e w' ⟨rfl, hb3⟩))
        go_ret2
        exact ⟨ret_bsb (vcT_no HF.out).symm HF.out.symm, hb2.trans (hb3.mono hb2.size)⟩
end Go.Proofs.Ytfbanjmooknafaa
