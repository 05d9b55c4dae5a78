/-
  Contracts of the reference's WeakestFlips, and the walk of the law.
-/
import Derived.Test.YtfbanjmooknafaaQW
import Derived.Test.YtfbanjmooknafaaQP
import Derived.Test.YtfbanjmooknafaaM
namespace Go.Proofs.Ytfbanjmooknafaa
open Go.RowKit
set_option linter.unusedSimpArgs false
set_option linter.unusedVariables false
set_option maxRecDepth 100000

theorem info_int : (Try.prog.info? 3).map (fun i => (i.zero, i.size, i.bytes)) = some (some (.int .i64 0), 1, 8) := by kernel_rfl
/-- numbers as cells -/
def vn (l : List Nat) : List Value := l.map fun n : Nat => Value.int .i64 (n : Int)
theorem vn_len (l : List Nat) : (vn l).length = l.length := by simp [vn]
theorem vn_app (a b : List Nat) : vn (a ++ b) = vn a ++ vn b := by simp [vn]
theorem vn_at {l : List Nat} {k : Nat} (h : k < l.length) : (vn l)[k]? = some (.int .i64 (l[k] : Int)) := by unfold vn; rw [List.getElem?_map, List.getElem?_eq_getElem h]; rfl
/-- the syndromes of the single bits -/
def pts (n k : Nat) : List Nat := (List.range k).map fun i => P.synN (P.single n i)
theorem pts_len (n k : Nat) : (pts n k).length = k := by simp [pts]
theorem pts_step (n k : Nat) : pts n (k + 1) = pts n k ++ [P.synN (P.single n k)] := by unfold pts; rw [List.range_succ, List.map_append]; rfl
theorem pts_at {n k i : Nat} (h : i < k) : (pts n k)[i]'(by rw [pts_len]; exact h) = P.synN (P.single n i) := by unfold pts; simp
/-- a number stands in a list -/
def hasN (l : List Nat) (x : Nat) : Bool := l.contains x
theorem w1_iff {l : List UInt8} (h : crOk l = true) : hasN (pts l.length l.length) (P.synN l) = w1B l := by
  obtain ⟨⟨_, hb⟩, h12⟩ := crOk_iff.1 h
  unfold w1B pts hasN
  rw [Bool.eq_iff_iff]
  simp only [List.contains_iff_mem, List.mem_map, List.mem_range, List.any_eq_true, flB, sndB, decide_eq_true_eq]
  constructor
  · rintro ⟨i, hi, he⟩
    exact ⟨i, hi, (P.flip_sound hb h12 hi).2 he⟩
  · rintro ⟨i, hi, he⟩
    exact ⟨i, hi, (P.flip_sound hb h12 hi).1 he⟩
theorem fl2_iff {l : List UInt8} (h : crOk l = true) {i k : Nat} (hi : i < l.length) (hk : k < l.length) : fl2B l i k = decide (P.synN (P.single l.length i) ^^^ P.synN (P.single l.length k) = P.synN l) := by
  obtain ⟨⟨_, hb⟩, h12⟩ := crOk_iff.1 h
  unfold fl2B sndB
  exact decide_eq_decide.2 (P.flip2_sound hb h12 hi hk)
theorem c_l1Has (g cap base n : Nat) (l : List Nat) (x : Nat) (w : World) (hnl : l.length = n) (hn : n ≤ 64) (h : w.ownsRow base 3 1 (.slice (some ⟨g, 0, none⟩) n cap) n (vn l)) : Calls Try.prog 140 #[.slice (some ⟨g, 0, none⟩) n cap, .int .i64 x] w fun e w' => e = .returned (.bool (hasN l x)) ∧ w = w' := by
  have H := Lib.hid h
  have HN := Lib.hid hnl
  clear h hnl
  go_enter Try.func140, Try.ntmps140
  go_wp2
  go_loop [5] (fun i => ∃ k : Nat, k ≤ n ∧ i = .int .i64 k ∧ ∀ j (hj : j < l.length), j < k → l[j] ≠ x) (fun i => n - (intOf i).toNat)
  case atStart => exact ⟨0, Nat.zero_le _, rfl, fun j hj h => absurd h (by omega)⟩
  case round =>
    obtain ⟨k, hk, rfl, hno⟩ := hrel
    have HNO := Lib.hid hno
    clear hno
    by_cases hlt : k < n
    · have hkl : k < l.length := by rw [HN.out]; exact hlt
      obtain ⟨y, hy⟩ : ∃ y, l[k] = y := ⟨_, rfl⟩
      have hc : w.cell? ⟨g, k, none⟩ = some (.int .i64 (y : Int)) := by rw [H.out.cellAt k (by omega), vn_at hkl, hy]
      have HY := Lib.hid hy
      clear hy
      by_cases hxy : y = x
      · have e1 : ((y : Int) == (x : Int)) = true := beq_iff_eq.2 (by omega)
        have HR := Lib.hid (show hasN l x = true by unfold hasN; rw [List.contains_iff_mem, ← hxy, ← HY.out]; exact List.getElem_mem _)
        clear hxy
        go_wp2
        go_ret
        exact ⟨ret_bool HR.out.symm, rfl⟩
      · have e1 : ((y : Int) == (x : Int)) = false := beq_eq_false_iff_ne.2 (by omega)
        have HN2 := Lib.hid (show ∀ j (hj : j < l.length), j < k + 1 → l[j] ≠ x from fun j hj h => by
          rcases Nat.lt_or_ge j k with h2 | h2
          · exact HNO.out j hj h2
          · have : j = k := by omega
            subst this
            rw [HY.out]; exact hxy)
        clear hxy
        go_wp2
        go_round
        case rel => exact ⟨k + 1, by omega, by go_num, HN2.out⟩
        case measure => simp [intOf]; omega
    · have HR := Lib.hid (show hasN l x = false by
        unfold hasN
        rw [Bool.eq_false_iff]; intro e
        rw [List.contains_iff_mem] at e
        obtain ⟨j, hj, he⟩ := List.getElem_of_mem e
        exact HNO.out j hj (by rw [HN.out] at hj; omega) he)
      go_wp2
      go_ret
      exact ⟨ret_bool HR.out.symm, rfl⟩
set_option maxHeartbeats 1000000 in
theorem c_specWeakestFlips (s : ByteArray) (w : World) (hs : s.size ≤ maxLen) : Calls Try.prog 20 #[.string s] w fun e w' => e = .returned (.tuple #[.int .i64 (wfI (B s)), .bool (crOk (B s))]) ∧ Below w.heap.size w w' := by
  have hl := B_len s
  cases hc : crOk (B s) with
  | false =>
    have HC := Lib.hid hc
    have HF := Lib.hid (wf_bad hc)
    clear hc
    go_enter Try.func20, Try.ntmps20
    go_wp2_with (go_at_call 134; refine (c_l4Good s _ hs).mono ?_; rintro e w' ⟨rfl, rfl⟩; rw [HC.out])
    go_ret2
    exact ⟨ret_ib (by rw [HF.out]) rfl, Below.refl _ _⟩
  | true =>
    have HC := Lib.hid hc
    obtain ⟨⟨h64, hbits⟩, h12⟩ := crOk_iff.1 hc
    rw [hl] at h64 h12
    have HB := Lib.hid hbits
    cases hsn : sndB (B s) with
    | true =>
      have HR := Lib.hid (wf_0 hc hsn)
      have hsq := snd_yes hsn
      clear hc hbits hsn
      go_enter Try.func20, Try.ntmps20
      go_wp2_with (first | (go_at_call 134; refine (c_l4Good s _ hs).mono ?_; rintro e w' ⟨rfl, rfl⟩; rw [HC.out]) | (go_at_call 136; refine (c_l4Syndrome s _ h12 h64 HB.out).mono ?_; rintro e w1 ⟨rfl, hq1⟩))
      go_ret2
      exact ⟨ret_ib (by rw [HR.out]) rfl, hq1.below _⟩
    | false =>
      have HS := Lib.hid hsn
      have hsq := snd_no hsn
      have hsl := P.synN_lt hbits (by omega)
      obtain ⟨i0, hi0, hz0, hz1, hz2⟩ := info_parts info_int
      obtain ⟨q, hq⟩ : ∃ q, P.synN (B s) = q := ⟨_, rfl⟩
      have HQ := Lib.hid hq
      rw [hq] at hsq hsl
      clear hc hbits hsn hq
      go_enter Try.func20, Try.ntmps20
      go_wp2_with (first | (go_at_call 134; refine (c_l4Good s _ hs).mono ?_; rintro e w' ⟨rfl, rfl⟩; rw [HC.out]) | (go_at_call 136; refine (c_l4Syndrome s _ h12 h64 HB.out).mono ?_; rintro e w1 ⟨rfl, hq1⟩; rw [HQ.out]))
      have hb1 := hq1.below w.heap.size
      go_loopw [5, 6] (fun v i wr => ∃ k : Nat, k ≤ s.size ∧ i = .int .i64 k ∧ wr.ownsRow w.heap.size 3 1 v k (vn (pts s.size k)) ∧ Below w.heap.size w wr) (fun _ i _ => s.size - (intOf i).toNat)
      case atStart => refine ⟨0, Nat.zero_le _, rfl, ?_, hb1.alloc hb1.size _⟩; exact World.ownsRow_made _ _ _ hb1.size (by unfold maxLen; omega) rfl
      case round =>
        obtain ⟨k, hk, rfl, hown, hb⟩ := hrel
        have hsz := hb.size
        have HO := Lib.hid hown
        clear hown
        by_cases hlt : k < s.size
        · have hsl2 := P.single_len s.size k
          have HSB := Lib.hid (P.single_bits s.size k)
          have h12x : 12 ≤ (P.single s.size k).length := by omega
          have h64x : (P.single s.size k).length ≤ 64 := by omega
          obtain ⟨y, hy⟩ : ∃ y, P.synN (P.single s.size k) = y := ⟨_, rfl⟩
          have HY := Lib.hid hy
          have hk64 : k ≤ 64 := by omega
          clear hsl2 hy
          go_wp2_with fail
          refine (c_l4Single s.size k _ h64 hk64).mono ?_
          rintro e w' ⟨rfl, rfl⟩
          go_wp2_with fail
          refine (c_l4Syndrome_l _ _ h12x h64x HSB.out).mono ?_
          rintro e w4 ⟨rfl, hq4⟩
          rw [HY.out]
          have hb4 := hb.trans (hq4.below wr.heap.size |>.mono hb.size)
          have hown4 := own_below HO.out (hq4.below wr.heap.size)
          have hsz4 := hb4.size
          go_wp2_with (at_builtin; refine wpList_append_own _ rfl _ _ 64 rfl w.heap.size 3 i0 (.int .i64 0) 1 8 Try.underlying64 hi0 hz0 hz1 hz2 rfl (by decide) _ _ _ rfl (hown4.alloc _) ⟨w4.heap.size, 0, none⟩ 1 1 [.int .i64 (y : Int)] rfl rfl (one_new _ _ _) ?pa2 ?pa3 ?pa4 ?pa5 ?_)
          case pa2 => intro u hu; simp at hu; subst hu; rfl
          case pa3 => unfold maxLen; omega
          case pa4 => omega
          case pa5 => simp; omega
          intro v1 w5 hown5 hg5 _
          have hb5 := below_app hb4 hsz4 hown4 hg5
          have HO5 := Lib.hid (show w5.ownsRow w.heap.size 3 1 v1 (k + 1) (vn (pts s.size (k + 1))) by
            rw [pts_step, vn_app, HY.out]; exact hown5)
          clear hown5 hg5 hown4 hq4
          go_wp2
          go_roundw
          case rel => exact ⟨k + 1, by omega, by go_num, HO5.out, hb5⟩
          case measure => simp [intOf]; omega
        · have hkn : k = s.size := by omega
          subst hkn
          obtain ⟨w9, hw9⟩ : ∃ x, x = wr := ⟨_, rfl⟩
          subst hw9
          have hf := own_form HO.out (by omega)
          obtain ⟨g, cap, hv, _⟩ := hf
          subst hv
          have HP := Lib.hid (pts_len s.size s.size)
          have HW := Lib.hid (show hasN (pts s.size s.size) q = w1B (B s) by rw [← HQ.out]; have := w1_iff HC.out; rw [hl] at this; exact this)
          have hco := fun (i : Nat) (h : i < s.size) => HO.out.cellAt i (by omega)
          have HCE := Lib.hid (show ∀ i, i < s.size → w9.cell? ⟨g, i, none⟩ = some (.int .i64 (P.synN (P.single s.size i) : Int)) from fun i h => by
            rw [hco i h, vn_at (by rw [HP.out]; exact h), pts_at h])
          have HSL := Lib.hid (fun i => P.synN_lt (P.single_bits s.size i) (by rw [P.single_len]; exact h12))
          clear hco
          cases hw1 : w1B (B s) with
          | true =>
            have HR := Lib.hid (wf_1 HC.out HS.out hw1)
            have HW1 := Lib.hid hw1
            clear hw1
            go_wp2_with (go_at_call 140; refine (c_l1Has g cap w.heap.size s.size (pts s.size s.size) q _ HP.out h64 HO.out).mono ?_; rintro e w' ⟨rfl, rfl⟩; rw [HW.out, HW1.out])
            go_ret2
            exact ⟨ret_ib (by rw [HR.out]) rfl, hb⟩
          | false =>
            have HW1 := Lib.hid hw1
            clear hw1
            go_wp2_with (go_at_call 140; refine (c_l1Has g cap w.heap.size s.size (pts s.size s.size) q _ HP.out h64 HO.out).mono ?_; rintro e w' ⟨rfl, rfl⟩; rw [HW.out, HW1.out])
            go_loopw [7, 8] (fun i _ wq => ∃ a : Nat, a ≤ s.size ∧ i = .int .i64 a ∧ (∀ i, i < a → ∀ k, k < i → fl2B (B s) i k = false) ∧ Qt w9 wq) (fun i _ _ => s.size - (intOf i).toNat)
            case atStart => exact ⟨0, Nat.zero_le _, rfl, fun j hj => absurd hj (by omega), Qt.refl _⟩
            case round =>
              obtain ⟨a, ha, rfl, hno, hqa⟩ := hrel
              have HNO := Lib.hid hno
              clear hno
              by_cases hla : a < s.size
              · have HCA := Lib.hid (HCE.out a hla)
                obtain ⟨p, hp⟩ : ∃ p, P.synN (P.single s.size a) = p := ⟨_, rfl⟩
                have hpl := HSL.out a
                rw [hp] at hpl HCA
                have HPA := Lib.hid hp
                clear hp
                go_wp2
                go_loopw [8] (fun k wv => ∃ c : Nat, c ≤ a ∧ k = .int .i64 c ∧ (∀ j, j < c → fl2B (B s) a j = false) ∧ Qt w9 wv) (fun k _ => a - (intOf k).toNat)
                case atStart => exact ⟨0, Nat.zero_le _, rfl, fun j hj => absurd hj (by omega), hqa⟩
                case round =>
                  obtain ⟨c, hc, rfl, hno2, hqc⟩ := hrel
                  have HNO2 := Lib.hid hno2
                  clear hno2
                  by_cases hlc : c < a
                  · have hcc := HCE.out c (by omega)
                    obtain ⟨r, hr⟩ : ∃ r, P.synN (P.single s.size c) = r := ⟨_, rfl⟩
                    have hrl := HSL.out c
                    rw [hr] at hrl hcc
                    have hd1 := (hqc.cell _).trans HCA.out
                    have hd2 := (hqc.cell _).trans hcc
                    have hxor := i64_xor p r (by omega) (by omega)
                    obtain ⟨t, ht⟩ : ∃ t, p ^^^ r = t := ⟨_, rfl⟩
                    rw [ht] at hxor
                    have HFL := Lib.hid (show fl2B (B s) a c = decide (t = q) by
                      have := fl2_iff HC.out (i := a) (k := c) (by omega) (by omega)
                      rw [hl, HPA.out, hr, HQ.out, ht] at this; exact this)
                    have ha0 : (0 : Int) ≤ (a : Int) := by omega
                    have ha1 : (a : Int) < (s.size : Int) := by omega
                    have hc0 : (0 : Int) ≤ (c : Int) := by omega
                    have hc1 : (c : Int) < (s.size : Int) := by omega
                    clear hr hcc ht
                    by_cases htq : t = q
                    · have e1 : ((t : Int) == (q : Int)) = true := beq_iff_eq.2 (by omega)
                      have HR := Lib.hid (wf_2 HC.out HS.out HW1.out (w2_yes (i := a) (k := c) (by omega) hlc (by rw [HFL.out, decide_eq_true htq])))
                      clear htq
                      go_wp2
                      go_quiet (fail)
                      go_wp2
                      go_ret2
                      exact ⟨ret_ib (by rw [HR.out]) rfl, hb.trans ((hqc.trans (Qt.of _ _)).below w.heap.size)⟩
                    · have e1 : ((t : Int) == (q : Int)) = false := beq_eq_false_iff_ne.2 (by omega)
                      have HN := Lib.hid (fl2_next HNO2.out (show fl2B (B s) a c = false by rw [HFL.out, decide_eq_false htq]))
                      clear htq
                      go_wp2
                      go_quiet (fail)
                      go_wp2
                      go_roundw
                      case rel => exact ⟨c + 1, by omega, by go_num, HN.out, hqc.trans (Qt.of _ _)⟩
                      case measure => simp [intOf]; omega
                  · have HN2 := Lib.hid (fl2_row HNO.out (fun j hj => HNO2.out j (by omega)))
                    go_wp2
                    go_roundw
                    case rel => exact ⟨a + 1, by omega, by go_num, HN2.out, hqc⟩
                    case measure => simp [intOf]; omega
              · have HR := Lib.hid (wf_3 HC.out HS.out HW1.out (w2_no (l := B s) (fun i hi => HNO.out i (by omega))))
                go_wp2
                go_ret2
                exact ⟨ret_ib (by rw [HR.out]) rfl, hb.trans (hqa.below w.heap.size)⟩
end Go.Proofs.Ytfbanjmooknafaa
