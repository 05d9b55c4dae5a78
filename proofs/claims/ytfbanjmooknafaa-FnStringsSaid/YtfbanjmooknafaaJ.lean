/-
  Contracts of JoinStrings, of the laws' helpers on slices of strings, and the walk of its law.
-/
import Derived.Test.YtfbanjmooknafaaS
import Derived.Test.YtfbanjmooknafaaF
namespace Go.Proofs.Ytfbanjmooknafaa
open Go.RowKit
set_option linter.unusedSimpArgs false
set_option linter.unusedVariables false

theorem holds_cases {w : World} {A : Option Addr} {n : Nat} {l : List (List UInt8)} (h : Holds w A (l.map vs)) (hl : l.length = n) : n = 0 ∨ (0 < n ∧ ∃ g o, A = some ⟨g, o, none⟩ ∧ ∀ (k : Nat) (hk : k < l.length), w.cell? ⟨g, o + k, none⟩ = some (.string (bs (l[k])))) := by
  rcases Nat.eq_zero_or_pos n with h0 | h0
  · exact .inl h0
  · obtain ⟨g, o, hA, hc⟩ := h (by intro e; rw [List.map_eq_nil_iff] at e; subst e; simp at hl; omega)
    refine .inr ⟨h0, g, o, hA, fun k hk => hc k _ ?_⟩
    rw [List.getElem?_map, List.getElem?_eq_getElem hk]; rfl
theorem sum_take {l : List (List UInt8)} {k : Nat} (hk : k < l.length) : P.sumL (l.take (k + 1)) = P.sumL (l.take k) + (l[k]).length := by
  rw [List.take_succ_eq_append_getElem hk, P.sumL_snoc]
theorem sum_le (l : List (List UInt8)) (k : Nat) : P.sumL (l.take k) ≤ P.sumL l := by
  have := P.sumL_app (l.take k) (l.drop k)
  rw [List.take_append_drop] at this; omega
theorem jn_take {sep : List UInt8} {l : List (List UInt8)} {k : Nat} (hk : k < l.length) (h0 : 0 < k) : P.jn sep (l.take (k + 1)) = P.jn sep (l.take k) ++ sep ++ l[k] := by
  rw [List.take_succ_eq_append_getElem hk, P.jn_snoc]
  intro e
  have : (l.take k).length = 0 := by rw [e]; rfl
  rw [List.length_take] at this
  omega
theorem jn_take0 {sep : List UInt8} {l : List (List UInt8)} (hk : 0 < l.length) : P.jn sep (l.take (0 + 1)) = l[0] := by
  rw [List.take_succ_eq_append_getElem hk]; simp [P.jn]
theorem jn_take_step {sep : List UInt8} {l : List (List UInt8)} {k : Nat} (hk : k < l.length) : (P.jn sep (l.take k)).length ≤ (P.jn sep (l.take (k + 1))).length := by
  rcases Nat.eq_zero_or_pos k with h | h
  · subst h; simp [P.jn]
  · rw [jn_take hk h, List.length_append, List.length_append]; omega
theorem jn_take_le {sep : List UInt8} {l : List (List UInt8)} (k : Nat) : (P.jn sep (l.take k)).length ≤ (P.jn sep l).length := by
  have : ∀ d, (P.jn sep (l.take (l.length - d))).length ≤ (P.jn sep l).length := by
    intro d
    induction d with
    | zero => rw [Nat.sub_zero, List.take_length]; omega
    | succ d ih =>
      by_cases h : l.length - d = 0
      · have : l.length - (d + 1) = 0 := by omega
        rw [this]; simp [P.jn]
      · have e : l.length - d = (l.length - (d + 1)) + 1 := by omega
        rw [e] at ih
        exact Nat.le_trans (jn_take_step (by omega)) ih
  rcases Nat.lt_or_ge k l.length with h | h
  · have := this (l.length - k)
    rwa [show l.length - (l.length - k) = k by omega] at this
  · rw [List.take_of_length_le h]; omega
theorem c_join (A : Option Addr) (n c : Nat) (l : List (List UInt8)) (s : ByteArray) (w : World) (hl : l.length = n) (hn : n ≤ 2097152) (h : Holds w A (l.map vs)) (hs : (P.jn (B s) l).length ≤ 4000) (h0 : 0 < n) :
    Calls Try.prog 154 #[.slice A n c, .string s] w fun e w' => e = .returned (.string (bs (P.jn (B s) l))) ∧ w = w' := by
  rcases holds_cases h hl with h3 | ⟨h3, g, o, rfl, hc⟩
  · omega
  · have HC := Lib.hid hc
    have HL := Lib.hid hl
    clear h hc hl
    go_enter Try.func154, Try.ntmps154
    go_wp2
    go_loop [5, 10] (fun r i => ∃ k : Nat, k ≤ n ∧ i = .int .i64 k ∧ r = .string (bs (P.jn (B s) (l.take k)))) (fun _ i => n - (intOf i).toNat)
    case atStart => exact ⟨0, Nat.zero_le _, rfl, rfl⟩
    case round =>
      obtain ⟨k, hk, rfl, rfl⟩ := hrel
      by_cases hlt : k < n
      · obtain ⟨x, hxk⟩ : ∃ x, l[k]'(by rw [HL.out]; exact hlt) = x := ⟨_, rfl⟩
        have hck := HC.out k (by rw [HL.out]; exact hlt)
        rw [hxk] at hck
        have hle := jn_take_le (sep := B s) (l := l) (k + 1)
        obtain ⟨J, hJ⟩ : ∃ J, P.jn (B s) (l.take k) = J := ⟨_, rfl⟩
        rw [hJ]
        by_cases hk0 : 0 < k
        · have hst := jn_take (sep := B s) (l := l) (k := k) (by rw [HL.out]; exact hlt) hk0
          rw [hJ, hxk] at hst
          rw [hst, List.length_append, List.length_append] at hle
          rw [List.append_assoc] at hst
          have hadd1 : ∀ W, (Op.stringOp .add (bs J) s).run Try.prog W = .ok (.string (bs (J ++ B s))) W := fun W => run_add_s W (bs J) s (by rw [B_bs]; omega)
          have hadd2 : ∀ W, (Op.stringOp .add (bs (J ++ B s)) (bs x)).run Try.prog W = .ok (.string (bs (J ++ (B s ++ x)))) W := fun W => by rw [← List.append_assoc]; exact run_add W _ _ (by rw [List.length_append]; omega)
          have HST := Lib.hid hst
          clear hst hle hxk hJ
          go_wp2
          go_round
          case rel => exact ⟨k + 1, by omega, by go_num, by rw [HST.out]⟩
          case measure => simp [intOf]; omega
        · have e0 : k = 0 := by omega
          subst e0
          have hst := jn_take0 (sep := B s) (l := l) (by rw [HL.out]; exact hlt)
          rw [hxk] at hst
          rw [hst] at hle
          have hJ0 : J = [] := by rw [← hJ]; simp [P.jn]
          subst hJ0
          have hadd2 : ∀ W, (Op.stringOp .add (bs []) (bs x)).run Try.prog W = .ok (.string (bs x)) W := fun W => run_add W [] _ (by simp; omega)
          have HST := Lib.hid hst
          rw [Nat.add_zero] at hck
          clear hst hle hxk hJ
          go_wp2
          go_round
          case rel => exact ⟨0 + 1, by omega, by go_num, by rw [HST.out]⟩
          case measure => simp [intOf]; omega
      · have HE := Lib.hid (show l.take k = l from List.take_of_length_le (by rw [HL.out]; omega))
        go_wp2
        go_ret
        exact ⟨ret_bs (by rw [HE.out]), rfl⟩
theorem js_sep {l : List (List UInt8)} {s : ByteArray} (h : s.size ≠ 1) : P.jsOk l (B s) = false := by unfold P.jsOk; rw [B_len, decide_eq_false h]; rfl
theorem js_nil {s : ByteArray} : P.jsOk [] (B s) = false := by unfold P.jsOk; simp
theorem jsT_no {l : List (List UInt8)} {s : List UInt8} (h : P.jsOk l s = false) : P.jsT l s = [] := by unfold P.jsT; rw [h]; rfl
theorem jsT_yes {l : List (List UInt8)} {s : List UInt8} (h : P.jsOk l s = true) : P.jsT l s = P.jn s l := by unfold P.jsT; rw [h]; rfl
theorem B_one {s : ByteArray} (h : s.size = 1) : B s = [s[0]'(by omega)] := by
  have h1 := B_head s (by omega)
  have h2 := B_len s
  cases hb : B s with
  | nil => rw [hb] at h2; simp at h2; omega
  | cons a t =>
    rw [hb] at h1 h2
    simp at h1 h2
    have : t = [] := List.eq_nil_of_length_eq_zero (by omega)
    rw [this, h1]
theorem js_has {l : List (List UInt8)} {b : UInt8} {k : Nat} (hk : k < l.length) (h : P.hasB b (l[k]) = true) : P.jsOk l [b] = false := by
  unfold P.jsOk
  have : l.all (fun p => !P.hasB (([b] : List UInt8).headD 0) p) = false := by
    rw [Bool.eq_false_iff]; intro e
    have := List.all_eq_true.1 e _ (List.getElem_mem hk)
    rw [show ([b] : List UInt8).headD 0 = b from rfl, h] at this; simp at this
  rw [this]; simp
theorem js_long {l : List (List UInt8)} {b : UInt8} (h : 4000 < (P.jn [b] l).length) : P.jsOk l [b] = false := by
  unfold P.jsOk; rw [decide_eq_false (p := (P.jn [b] l).length ≤ 4000) (by omega), Bool.and_false]
theorem js_yes {l : List (List UInt8)} {b : UInt8} (h0 : l ≠ []) (h : ∀ x ∈ l, P.hasB b x = false) (h4 : (P.jn [b] l).length ≤ 4000) : P.jsOk l [b] = true := by
  unfold P.jsOk
  have : l.all (fun p => !P.hasB (([b] : List UInt8).headD 0) p) = true := by
    rw [List.all_eq_true]; intro x hx
    rw [show ([b] : List UInt8).headD 0 = b from rfl, h x hx]; rfl
  rw [this, decide_eq_true h0, decide_eq_true h4]; rfl
theorem jn_len (b : UInt8) (l : List (List UInt8)) : (P.jn [b] l).length = P.sumL l + (l.length - 1) := P.jn_length b l
theorem mem_sum {l : List (List UInt8)} {x : List UInt8} (h : x ∈ l) : x.length ≤ P.sumL l := by
  obtain ⟨a, b, rfl⟩ := List.append_of_mem h
  rw [P.sumL_app]
  have : P.sumL (x :: b) = x.length + P.sumL b := by simp [P.sumL]
  omega
theorem c_split_l (x : List UInt8) (b : UInt8) (w : World) (hs : x.length ≤ 2097152) : Calls Try.prog 153 #[.string (bs x), .int .u8 b.toNat] w (RetRow 9 w ((P.spl b x).map vs)) := c_split (bs x) b w (by rw [bs_size]; exact hs)
theorem spl_one {b : UInt8} {x : List UInt8} {m : Nat} (h : (P.spl b x).length = m) : P.hasB b x = decide (1 < m) := by rw [← h]; exact (P.spl_long b x).symm
theorem c_implJoinStrings (A : Option Addr) (n c : Nat) (l : List (List UInt8)) (s : ByteArray) (w : World) (hl : l.length = n) (hn : n + P.sumL l ≤ 1048576) (h : Holds w A (l.map vs)) (hs : s.size ≤ 2097152) :
    Calls Try.prog 34 #[.slice A n c, .string s] w fun e w' => e = .returned (.tuple #[.string (bs (P.jsT l (B s))), .bool (P.jsOk l (B s))]) ∧ Below w.heap.size w w' := by
  rcases holds_cases h hl with h3 | ⟨h3, g, o, rfl, hc⟩
  · have HF := Lib.hid (show P.jsOk l (B s) = false by rw [List.eq_nil_of_length_eq_zero (show l.length = 0 by omega)]; exact js_nil)
    have hz : ((n : Int) == 0) = true := beq_iff_eq.2 (by omega)
    clear h h3 hl
    go_enter Try.func34, Try.ntmps34
    go_wp2
    go_ret2
    exact ⟨ret_sb (by rw [B_bs, jsT_no HF.out]; rfl) HF.out.symm, Below.refl _ _⟩
  · have hz : ((n : Int) == 0) = false := beq_eq_false_iff_ne.2 (by omega)
    by_cases h1 : s.size = 1
    · have h1' : ((s.size : Int) != 1) = false := by rw [bne_eq_false_iff_eq]; omega
      have h1p : 0 < s.size := by omega
      obtain ⟨b, hb⟩ : ∃ b, s[0]'h1p = b := ⟨_, rfl⟩
      have HSB := Lib.hid (show B s = [b] by rw [← hb]; exact B_one h1)
      have hgo : g < w.heap.size := World.block_lt_of_cell? w _ (hc 0 (by omega))
      have HC := Lib.hid hc
      have HL := Lib.hid hl
      have HH := Lib.hid h
      have hlen := jn_len b l
      rw [hl] at hlen
      have HLEN := Lib.hid hlen
      clear h hc hl h1 hlen
      go_enter Try.func34, Try.ntmps34
      go_wp2
      go_loopw [6, 22] (fun r i wr => ∃ k : Nat, k ≤ n ∧ i = .int .i64 k ∧ r = .int .i64 (n - 1 + P.sumL (l.take k)) ∧ (∀ x ∈ l.take k, P.hasB b x = false) ∧ Below w.heap.size w wr) (fun _ i _ => n - (intOf i).toNat)
      case atStart => exact ⟨0, Nat.zero_le _, rfl, by simp [P.sumL], by simp, Below.refl _ _⟩
      case round =>
        obtain ⟨k, hk, rfl, rfl, hno, hbl⟩ := hrel
        have HNO := Lib.hid hno
        have hsz := hbl.size
        clear hno
        by_cases hlt : k < n
        · obtain ⟨x, hxk⟩ : ∃ x, l[k]'(by rw [HL.out]; exact hlt) = x := ⟨_, rfl⟩
          have hck := HC.out k (by rw [HL.out]; exact hlt)
          rw [hxk] at hck
          have hcr : wr.cell? ⟨g, o + k, none⟩ = some (.string (bs x)) := (hbl.cell (p := ⟨g, o + k, none⟩) hgo).trans hck
          have hS := sum_take (l := l) (k := k) (by rw [HL.out]; exact hlt)
          have hSl := sum_le l (k + 1)
          rw [hS, hxk] at hSl
          rw [hxk] at hS
          have HS := Lib.hid hS
          have hbs := bs_size x
          obtain ⟨m, hm⟩ : ∃ m, x.length = m := ⟨_, rfl⟩
          rw [hm] at hbs hSl
          have HM := Lib.hid hm
          have HXK := Lib.hid hxk
          obtain ⟨S, hSS⟩ : ∃ S, P.sumL (l.take k) = S := ⟨_, rfl⟩
          rw [hSS] at hSl ⊢
          have HSS := Lib.hid hSS
          obtain ⟨q, hq⟩ : ∃ q, (P.spl b x).length = q := ⟨_, rfl⟩
          have hq1 := spl_one hq
          clear hck hxk hS hm hSS
          by_cases h2 : 1 < q
          · have HF := Lib.hid (show P.jsOk l (B s) = false by
              rw [HSB.out]; exact js_has (k := k) (by rw [HL.out]; exact hlt) (by rw [HXK.out, hq1]; simpa using h2))
            clear hq1
            go_wp2_with (go_at_call 153; refine (c_split_l x b _ (by rw [HM.out]; omega)).mono ?_; rintro e w2 ⟨g2, cap2, rfl, _, hb2⟩)
            go_ret2
            exact ⟨ret_sb (by rw [B_bs, jsT_no HF.out]; rfl) HF.out.symm, hbl.trans (hb2.mono hsz)⟩
          · have HN2 := Lib.hid (show ∀ y ∈ l.take (k + 1), P.hasB b y = false by
              intro y hy
              rw [List.take_succ_eq_append_getElem (by rw [HL.out]; exact hlt), List.mem_append, List.mem_singleton] at hy
              rcases hy with hy | rfl
              · exact HNO.out y hy
              · rw [HXK.out, hq1]; simpa using h2)
            clear hq1
            go_wp2_with (go_at_call 153; refine (c_split_l x b _ (by rw [HM.out]; omega)).mono ?_; rintro e w2 ⟨g2, cap2, rfl, _, hb2⟩)
            go_roundw
            case rel => exact ⟨k + 1, by omega, by go_num, by rw [HS.out, HSS.out, HM.out]; go_num, HN2.out, hbl.trans (hb2.mono hsz)⟩
            case measure => simp [intOf]; omega
        · have HT := Lib.hid (show l.take k = l from List.take_of_length_le (by rw [HL.out]; omega))
          obtain ⟨S, hSS⟩ : ∃ S, P.sumL (l.take k) = S := ⟨_, rfl⟩
          have hSS2 : P.sumL l = S := by rw [← hSS, HT.out]
          rw [hSS]
          have hJ := HLEN.out
          rw [hSS2] at hJ
          by_cases h4 : 4000 < n - 1 + S
          · have HF := Lib.hid (show P.jsOk l (B s) = false by rw [HSB.out]; exact js_long (by omega))
            clear hSS hSS2 hJ
            have h4' : (4000 : Int) < (n : Int) - 1 + S := by omega
            go_wp2
            go_ret2
            exact ⟨ret_sb (by rw [B_bs, jsT_no HF.out]; rfl) HF.out.symm, hbl⟩
          · have HY := Lib.hid (show P.jsOk l (B s) = true by
              rw [HSB.out]
              refine js_yes (by intro e; have := HL.out; rw [e] at this; simp at this; omega) ?_ (by omega)
              have := HNO.out
              rwa [HT.out] at this)
            have hjl : (P.jn (B s) l).length ≤ 4000 := by rw [HSB.out]; omega
            have h4' : ¬ (4000 : Int) < (n : Int) - 1 + S := by omega
            have HHr : Holds wr (some ⟨g, o, none⟩) (l.map vs) := fun _ => ⟨g, o, rfl, fun j u hj => by
              have hjl : j < l.length := by have := (List.getElem?_eq_some_iff.1 hj).1; simpa using this
              rw [hbl.cell (p := ⟨g, o + j, none⟩) hgo, HC.out j hjl]
              rw [List.getElem?_map, List.getElem?_eq_getElem hjl] at hj
              simpa [vs] using hj⟩
            have HJL := Lib.hid hjl
            have HHR := Lib.hid HHr
            clear hSS hSS2 hJ hjl HHr
            go_wp2_with (go_at_call 154; refine (c_join _ n c l s _ HL.out (by omega) HHR.out HJL.out h3).mono ?_; rintro e w2 ⟨rfl, rfl⟩)
            go_ret2
            exact ⟨ret_sb (by rw [B_bs, jsT_yes HY.out]; rfl) HY.out.symm, hbl⟩
    · have HF := Lib.hid (js_sep (l := l) h1)
      have h1' : ((s.size : Int) != 1) = true := by rw [bne_iff_ne]; omega
      clear h hc h1
      go_enter Try.func34, Try.ntmps34
      go_wp2
      go_ret2
      exact ⟨ret_sb (by rw [B_bs, jsT_no HF.out]; rfl) HF.out.symm, Below.refl _ _⟩
theorem c_l1Stands_l (x : List UInt8) (b : UInt8) (w : World) (hs : x.length ≤ 2097152) : Calls Try.prog 155 #[.string (bs x), .int .u8 b.toNat] w fun e w' => e = .returned (.bool (P.hasB b x)) ∧ w = w' := c_l1Stands (bs x) b w (by rw [bs_size]; unfold maxLen; omega)
theorem c_specJoinStrings (A : Option Addr) (n c : Nat) (l : List (List UInt8)) (s : ByteArray) (w : World) (hl : l.length = n) (hn : n + P.sumL l ≤ 1048576) (h : Holds w A (l.map vs)) (hs : s.size ≤ 2097152) :
    Calls Try.prog 35 #[.slice A n c, .string s] w fun e w' => e = .returned (.tuple #[.string (bs (P.jsT l (B s))), .bool (P.jsOk l (B s))]) ∧ Qt w w' := by
  by_cases h1 : s.size = 1
  · have h1' : ((s.size : Int) != 1) = false := by rw [bne_eq_false_iff_eq]; omega
    rcases holds_cases h hl with h3 | ⟨h3, g, o, rfl, hc⟩
    · have HF := Lib.hid (show P.jsOk l (B s) = false by rw [List.eq_nil_of_length_eq_zero (show l.length = 0 by omega)]; exact js_nil)
      have hz : ((n : Int) == 0) = true := beq_iff_eq.2 (by omega)
      clear h h3 hl h1
      go_enter Try.func35, Try.ntmps35
      go_wp2
      go_ret2
      exact ⟨ret_sb (by rw [B_bs, jsT_no HF.out]; rfl) HF.out.symm, Qt.refl _⟩
    · have hz : ((n : Int) == 0) = false := beq_eq_false_iff_ne.2 (by omega)
      have h1p : 0 < s.size := by omega
      obtain ⟨b, hb⟩ : ∃ b, s[0]'h1p = b := ⟨_, rfl⟩
      have HSB := Lib.hid (show B s = [b] by rw [← hb]; exact B_one h1)
      have HC := Lib.hid hc
      have HL := Lib.hid hl
      have hBl : (B s).length = 1 := by rw [B_len]; exact h1
      clear h hc hl
      go_enter Try.func35, Try.ntmps35
      go_wp2
      go_loopw [6, 7] (fun r i wr => ∃ k : Nat, k ≤ n ∧ i = .int .i64 k ∧ r = .string (bs (P.jn (B s) (l.take k))) ∧ (P.jn (B s) (l.take k)).length ≤ 4000 ∧ (∀ x ∈ l.take k, P.hasB b x = false) ∧ Qt w wr) (fun _ i _ => n - (intOf i).toNat)
      case atStart => exact ⟨0, Nat.zero_le _, rfl, rfl, by simp [P.jn], by simp, Qt.refl _⟩
      case round =>
        obtain ⟨k, hk, rfl, rfl, hlen, hno, hq⟩ := hrel
        have HNO := Lib.hid hno
        clear hno
        by_cases hlt : k < n
        · obtain ⟨x, hxk⟩ : ∃ x, l[k]'(by rw [HL.out]; exact hlt) = x := ⟨_, rfl⟩
          have hck := HC.out k (by rw [HL.out]; exact hlt)
          rw [hxk] at hck
          have hcr := (hq.cell _).trans hck
          clear hck
          have hxs := mem_sum (l := l) (x := x) (by rw [← hxk]; exact List.getElem_mem _)
          have HXK := Lib.hid hxk
          have hk0 : (0 : Int) ≤ (k : Int) := by omega
          have hk1 : (k : Int) < (n : Int) := by omega
          have h01 : (0 : Int) < (s.size : Int) := by omega
          obtain ⟨J, hJ⟩ : ∃ J, P.jn (B s) (l.take k) = J := ⟨_, rfl⟩
          rw [hJ] at hlen ⊢
          cases hh : P.hasB b x with
          | true =>
            have HF := Lib.hid (show P.jsOk l (B s) = false by
              rw [HSB.out]; exact js_has (k := k) (by rw [HL.out]; exact hlt) (by rw [HXK.out]; exact hh))
            clear hxk hJ
            go_wp2
            go_quiet ((go_at_call 155; exact Calls.quiet_of_same ((c_l1Stands_l x b _ (by omega)).mono fun e w' h => ⟨h.1.trans (by rw [hh]), h.2.symm⟩)))
            go_wp2
            go_ret2
            exact ⟨ret_sb (by rw [B_bs, jsT_no HF.out]; rfl) HF.out.symm, hq.trans (Qt.of _ _)⟩
          | false =>
            have HN2 := Lib.hid (show ∀ y ∈ l.take (k + 1), P.hasB b y = false by
              intro y hy
              rw [List.take_succ_eq_append_getElem (by rw [HL.out]; exact hlt), List.mem_append, List.mem_singleton] at hy
              rcases hy with hy | rfl
              · exact HNO.out y hy
              · rw [HXK.out]; exact hh)
            by_cases hkp : 0 < k
            · have hst := jn_take (sep := B s) (l := l) (k := k) (by rw [HL.out]; exact hlt) hkp
              rw [hJ, hxk, List.append_assoc] at hst
              have hcat1 : bs J ++ s = bs (J ++ B s) := bs_app J (B s)
              have hcat2 : bs (J ++ B s) ++ bs x = bs (J ++ (B s ++ x)) := by rw [bs_app, List.append_assoc]
              obtain ⟨L, hL⟩ : ∃ L, (J ++ (B s ++ x)).length = L := ⟨_, rfl⟩
              have HLL := Lib.hid hL.symm
              have hLs := bs_size (J ++ (B s ++ x))
              have hadd1 : ∀ W, (Op.stringOp .add (bs J) s).run Try.prog W = .ok (.string (bs (J ++ B s))) W := fun W => run_add_s W (bs J) s (by rw [B_bs]; omega)
              have hadd2 : ∀ W, (Op.stringOp .add (bs (J ++ B s)) (bs x)).run Try.prog W = .ok (.string (bs (J ++ (B s ++ x)))) W := fun W => by rw [← List.append_assoc]; exact run_add W _ _ (by rw [List.length_append]; omega)
              rw [hL] at hLs
              clear hxk hJ hL
              have HST := Lib.hid hst
              by_cases h4 : 4000 < L
              · have HF := Lib.hid (show P.jsOk l (B s) = false by
                  rw [HSB.out]
                  refine js_long ?_
                  have := jn_take_le (sep := B s) (l := l) (k + 1)
                  rw [hst, ← HLL.out] at this
                  rw [← HSB.out]; omega)
                clear hst
                go_wp2
                go_quiet ((go_at_call 155; exact Calls.quiet_of_same ((c_l1Stands_l x b _ (by omega)).mono fun e w' h => ⟨h.1.trans (by rw [hh]), h.2.symm⟩)))
                go_wp2
                go_ret2
                exact ⟨ret_sb (by rw [B_bs, jsT_no HF.out]; rfl) HF.out.symm, hq.trans (Qt.of _ _)⟩
              · clear hst
                go_wp2
                go_quiet ((go_at_call 155; exact Calls.quiet_of_same ((c_l1Stands_l x b _ (by omega)).mono fun e w' h => ⟨h.1.trans (by rw [hh]), h.2.symm⟩)))
                go_wp2
                go_roundw
                case rel => exact ⟨k + 1, by omega, by go_num, by rw [HST.out], by rw [HST.out, ← HLL.out]; omega, HN2.out, hq.trans (Qt.of _ _)⟩
                case measure => simp [intOf]; omega
            · have e0 : k = 0 := by omega
              subst e0
              have hst := jn_take0 (sep := B s) (l := l) (by rw [HL.out]; exact hlt)
              rw [hxk] at hst
              have hJ0 : J = [] := by rw [← hJ]; simp [P.jn]
              subst hJ0
              have hadd2 : ∀ W, (Op.stringOp .add (bs []) (bs x)).run Try.prog W = .ok (.string (bs x)) W := fun W => run_add W [] _ (by simp; omega)
              have hcat2 : bs [] ++ bs x = bs x := bs_app [] x
              obtain ⟨L, hL⟩ : ∃ L, x.length = L := ⟨_, rfl⟩
              have HLL := Lib.hid hL.symm
              have hLs := bs_size x
              rw [hL] at hLs
              rw [Nat.add_zero] at hcr
              have hn0 : (0 : Int) < (n : Int) := by omega
              clear hxk hJ hL
              have HST := Lib.hid hst
              by_cases h4 : 4000 < L
              · have HF := Lib.hid (show P.jsOk l (B s) = false by
                  rw [HSB.out]
                  refine js_long ?_
                  have := jn_take_le (sep := B s) (l := l) (0 + 1)
                  rw [hst, ← HLL.out] at this
                  rw [← HSB.out]; omega)
                clear hst
                go_wp2
                go_quiet ((go_at_call 155; exact Calls.quiet_of_same ((c_l1Stands_l x b _ (by omega)).mono fun e w' h => ⟨h.1.trans (by rw [hh]), h.2.symm⟩)))
                go_wp2
                go_ret2
                exact ⟨ret_sb (by rw [B_bs, jsT_no HF.out]; rfl) HF.out.symm, hq.trans (Qt.of _ _)⟩
              · clear hst
                go_wp2
                go_quiet ((go_at_call 155; exact Calls.quiet_of_same ((c_l1Stands_l x b _ (by omega)).mono fun e w' h => ⟨h.1.trans (by rw [hh]), h.2.symm⟩)))
                go_wp2
                go_roundw
                case rel => exact ⟨0 + 1, by omega, by go_num, by rw [HST.out], by rw [HST.out, ← HLL.out]; omega, HN2.out, hq.trans (Qt.of _ _)⟩
                case measure => simp [intOf]; omega
        · have HT := Lib.hid (show l.take k = l from List.take_of_length_le (by rw [HL.out]; omega))
          have HY := Lib.hid (show P.jsOk l (B s) = true by
            rw [HSB.out]
            refine js_yes (by intro e; have := HL.out; rw [e] at this; simp at this; omega) ?_ ?_
            · have := HNO.out
              rwa [HT.out] at this
            · rw [← HSB.out]; have := hlen; rwa [HT.out] at this)
          go_wp2
          go_ret2
          exact ⟨ret_sb (by rw [B_bs, B_bs, jsT_yes HY.out, HT.out]) HY.out.symm, hq⟩
  · have HF := Lib.hid (js_sep (l := l) h1)
    have h1' : ((s.size : Int) != 1) = true := by rw [bne_iff_ne]; omega
    clear h h1
    go_enter Try.func35, Try.ntmps35
    go_wp2
    go_ret2
    exact ⟨ret_sb (by rw [B_bs, jsT_no HF.out]; rfl) HF.out.symm, Qt.refl _⟩
end Go.Proofs.Ytfbanjmooknafaa
