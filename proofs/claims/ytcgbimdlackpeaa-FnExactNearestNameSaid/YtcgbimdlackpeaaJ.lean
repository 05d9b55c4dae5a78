/-
  Contracts of JoinStrings, of the laws' helpers on slices of strings, and the walk of its law.
-/
import Derived.Test.YtcgbimdlackpeaaS
import Derived.Test.YtcgbimdlackpeaaF
namespace Go.Proofs.Ytcgbimdlackpeaa
open Go.RowKit
set_option linter.unusedSimpArgs false
set_option linter.unusedVariables false

theorem holds_cases {w : World} {A : Option Addr} {n : Nat} {l : List (List UInt8)} (h : Holds w A (l.map vs)) (hl : l.length = n) : n = 0 ∨ (0 < n ∧ ∃ g o, A = some ⟨g, o, none⟩ ∧ ∀ (k : Nat) (hk : k < l.length), w.cell? ⟨g, o + k, none⟩ = some (.string (bs (l[k])))) := by
  rcases Nat.eq_zero_or_pos n with h0 | h0
  · exact .inl h0
  · obtain ⟨g, o, hA, hc⟩ := h (by intro e; rw [List.map_eq_nil_iff] at e; subst e; simp at hl; omega)
    refine .inr ⟨h0, g, o, hA, fun k hk => hc k _ ?_⟩
    rw [List.getElem?_map, List.getElem?_eq_getElem hk]; rfl
theorem sum_take {l : List (List UInt8)} {k : Nat} (hk : k < l.length) : P.sumL (l.take (k + 1)) = P.sumL (l.take k) + (l[k]).length := by
  rw [List.take_succ_eq_append_getElem hk, P.sumL_snoc]
theorem sum_le (l : List (List UInt8)) (k : Nat) : P.sumL (l.take k) ≤ P.sumL l := by
  have := P.sumL_app (l.take k) (l.drop k)
  rw [List.take_append_drop] at this; omega
theorem c_szStringS (A : Option Addr) (n c : Nat) (l : List (List UInt8)) (left : Int) (w : World) (hl : l.length = n) (hn : n ≤ maxLen) (h : Holds w A (l.map vs)) (hx : ∀ x ∈ l, x.length ≤ maxLen) (h0 : 0 ≤ left) (h1 : left ≤ 2097152) :
    Calls Try.prog 33 #[.slice A n c, .int .i64 left] w fun e w' => e = .returned (.int .i64 (P.szI left l)) ∧ w = w' := by
  unfold maxLen at hn hx
  by_cases h2 : left < n
  · have HR := Lib.hid (show P.szI left l = -1 by unfold P.szI; rw [if_neg (by rw [hl]; omega)])
    clear hx h hl
    go_enter Try.func33, Try.ntmps33
    go_wp2
    go_ret
    exact ⟨ret_int HR.out.symm, rfl⟩
  · rcases holds_cases h hl with h3 | ⟨h3, g, o, rfl, hc⟩
    · have HR := Lib.hid (show P.szI left l = left by
        have : l = [] := List.eq_nil_of_length_eq_zero (by omega)
        subst this; unfold P.szI; rw [if_pos (by simp [P.sumL]; omega)]; simp [P.sumL])
      clear hx h hl
      go_enter Try.func33, Try.ntmps33
      go_wp2
      refine wp_loop_rounds 1 ?_
      rw [rounds_succ]
      go_wp2
      go_ret
      exact ⟨ret_int (by rw [HR.out]), rfl⟩
    · have HX := Lib.hid hx
      have HC := Lib.hid hc
      have HL := Lib.hid hl
      clear hx h hl hc
      go_enter Try.func33, Try.ntmps33
      go_wp2
      go_loop [1, 5] (fun r i => ∃ k : Nat, k ≤ n ∧ i = .int .i64 k ∧ r = .int .i64 (left - n - P.sumL (l.take k)) ∧ 0 ≤ left - n - P.sumL (l.take k)) (fun _ i => n - (intOf i).toNat)
      case atStart => exact ⟨0, Nat.zero_le _, rfl, by simp [P.sumL], by simp [P.sumL]; omega⟩
      case round =>
        obtain ⟨k, hk, rfl, rfl, hp⟩ := hrel
        by_cases hlt : k < n
        · obtain ⟨x, hxk⟩ : ∃ x, l[k]'(by rw [HL.out]; exact hlt) = x := ⟨_, rfl⟩
          have hm := HX.out x (by rw [← hxk]; exact List.getElem_mem _)
          have hck := HC.out k (by rw [HL.out]; exact hlt)
          rw [hxk] at hck
          have HS := Lib.hid (sum_take (l := l) (k := k) (by rw [HL.out]; exact hlt))
          have HXK := Lib.hid hxk
          have hbs := bs_size x
          obtain ⟨m, hmx⟩ : ∃ m, x.length = m := ⟨_, rfl⟩
          rw [hmx] at hbs hm
          have HM := Lib.hid hmx
          obtain ⟨S, hS⟩ : ∃ S, P.sumL (l.take k) = S := ⟨_, rfl⟩
          rw [hS] at hp ⊢
          have HSk := Lib.hid hS
          clear hxk hmx hS
          by_cases hneg : left - n - S - m < 0
          · have HR := Lib.hid (show P.szI left l = -1 by
              have h1 := sum_le l (k + 1)
              rw [HS.out, HXK.out, HM.out, HSk.out] at h1
              unfold P.szI; rw [if_neg (by rw [HL.out]; omega)])
            go_wp2
            go_ret
            exact ⟨ret_int HR.out.symm, rfl⟩
          · go_wp2
            go_round
            case rel => exact ⟨k + 1, by omega, by go_num, by rw [HS.out, HXK.out, HM.out, HSk.out]; go_num, by rw [HS.out, HXK.out, HM.out, HSk.out]; omega⟩
            case measure => simp [intOf]; omega
        · have HR := Lib.hid (show P.szI left l = left - n - P.sumL (l.take k) by
            have : l.take k = l := List.take_of_length_le (by rw [HL.out]; omega)
            rw [this] at hp ⊢
            unfold P.szI; rw [if_pos (by rw [HL.out]; omega), HL.out])
          go_wp2
          go_ret
          exact ⟨ret_int HR.out.symm, rfl⟩
/-- the cells of a copy after j steps -/
def copied (l : List (List UInt8)) (n j : Nat) : List Value := (l.take j).map vs ++ List.replicate (n - j) (vs [])
theorem copied_step {l : List (List UInt8)} {n j : Nat} (hl : l.length = n) (hj : j < n) : (copied l n j).set j (vs (l[j]'(by omega))) = copied l n (j + 1) := by
  unfold copied
  have hlen : ((l.take j).map vs).length = j := by rw [List.length_map, List.length_take]; omega
  rw [List.set_append_right _ _ (by omega), hlen, Nat.sub_self]
  have e : n - j = (n - (j + 1)) + 1 := by omega
  rw [e, List.replicate_succ, List.set_cons_zero, List.take_succ_eq_append_getElem (by omega), List.map_append, List.append_assoc]; rfl
theorem copied_all {l : List (List UInt8)} {n : Nat} (hl : l.length = n) : copied l n n = l.map vs := by
  unfold copied; rw [Nat.sub_self, List.take_of_length_le (by omega)]; simp
theorem copied_at {l : List (List UInt8)} {n j : Nat} (hl : l.length = n) (hj : j < n) : (copied l n j)[j]? = some (vs []) := by
  unfold copied
  have hlen : ((l.take j).map vs).length = j := by rw [List.length_map, List.length_take]; omega
  rw [List.getElem?_append_right (by omega), hlen, Nat.sub_self, List.getElem?_replicate, if_pos (by omega)]
theorem c_toStringS (A : Option Addr) (n c : Nat) (l : List (List UInt8)) (w : World) (hl : l.length = n) (hn : n ≤ 2097152) (h : Holds w A (l.map vs)) :
    Calls Try.prog 35 #[.slice A n c] w fun e w' => e = .returned (.slice (some ⟨w.heap.size, 0, none⟩) n n) ∧ w'.ownsRow w.heap.size 9 1 (.slice (some ⟨w.heap.size, 0, none⟩) n n) n (l.map vs) ∧ Below w.heap.size w w' := by
  obtain ⟨i0, hi, hz0, hz1, hz2⟩ := info_parts info_string
  have HCA := Lib.hid (copied_all hl)
  have HZ := Lib.hid (show (madeCells #[Value.string ByteArray.empty] n).toList = copied l n 0 by rw [toList_madeCells_one]; unfold copied; simp; exact .inr rfl)
  rcases holds_cases h hl with h3 | ⟨h3, g, o, rfl, hc⟩
  · have HN0 := Lib.hid h3
    have h3' : n < 1 := by omega
    clear h h3
    go_enter Try.func35, Try.ntmps35
    go_wp2_with (at_make; refine wpList_make_full _ rfl _ _ 34 rfl w.heap.size 9 i0 (.string ByteArray.empty) 1 Try.underlying34 hi hz0 hz1 _ _ _ _ n rfl rfl rfl rfl (by rw [hz2]; omega) (by unfold maxLen; omega) (Nat.le_refl _) ?_)
    intro w1 hown1 hg1
    have hb1 : Below w.heap.size w w1 := (Below.refl _ _).grown hg1 (Nat.le_refl _) (fun k hk => by cases hk)
    have HO := Lib.hid hown1
    clear hown1 hg1
    go_wp2
    refine wp_loop_rounds 1 ?_
    rw [rounds_succ]
    go_wp2
    go_ret
    refine ⟨rfl, ?_, hb1⟩
    have e1 := HO.out
    have e2 := HCA.out
    have e3 := HZ.out
    have e4 := HN0.out
    subst e4
    rw [← e2, ← e3]
    exact e1
  · have hgo : g < w.heap.size := World.block_lt_of_cell? w _ (hc 0 (by omega))
    have HC := Lib.hid hc
    have HL := Lib.hid hl
    clear h hc hl
    go_enter Try.func35, Try.ntmps35
    go_wp2_with (at_make; refine wpList_make_full _ rfl _ _ 34 rfl w.heap.size 9 i0 (.string ByteArray.empty) 1 Try.underlying34 hi hz0 hz1 _ _ _ _ n rfl rfl rfl rfl (by rw [hz2]; omega) (by unfold maxLen; omega) (Nat.le_refl _) ?_)
    intro w1 hown1 hg1
    have hb1 : Below w.heap.size w w1 := (Below.refl _ _).grown hg1 (Nat.le_refl _) (fun k hk => by cases hk)
    have HO := Lib.hid (show w1.ownsRow w.heap.size 9 1 (.slice (some ⟨w.heap.size, 0, none⟩) n n) n (copied l n 0) by rw [← HZ.out]; exact hown1)
    clear hown1 hg1
    go_wp2
    go_loopw [4] (fun i wr => ∃ k : Nat, k ≤ n ∧ i = .int .i64 k ∧ wr.ownsRow w.heap.size 9 1 (.slice (some ⟨w.heap.size, 0, none⟩) n n) n (copied l n k) ∧ Below w.heap.size w wr) (fun i _ => n - (intOf i).toNat)
    case atStart => exact ⟨0, Nat.zero_le _, rfl, HO.out, hb1⟩
    case round =>
      obtain ⟨k, hk, rfl, hown, hb⟩ := hrel
      by_cases hlt : k < n
      · have hck := HC.out k (by rw [HL.out]; exact hlt)
        have hcr : wr.cell? ⟨g, o + k, none⟩ = some (.string (bs (l[k]'(by rw [HL.out]; exact hlt)))) := (hb.cell (p := ⟨g, o + k, none⟩) hgo).trans hck
        have hcd : wr.cell? ⟨w.heap.size, k, none⟩ = some (vs []) := by rw [hown.cellAt k (by omega)]; exact copied_at HL.out hlt
        have hfd := hown.frozenAt k
        have hst := hown.stored k (vs (l[k]'(by rw [HL.out]; exact hlt)))
        rw [copied_step HL.out hlt] at hst
        have HST := Lib.hid hst.1
        have hB : Below w.heap.size w (wr.setCell ⟨w.heap.size, k, none⟩ (vs (l[k]'(by rw [HL.out]; exact hlt)))) := hb.setCell (Nat.le_refl _) _
        have HB := Lib.hid hB
        clear hst hown hB hck
        go_wp2
        go_roundw
        case rel => exact ⟨k + 1, by omega, by go_num, HST.out, HB.out⟩
        case measure => simp [intOf]; omega
      · have HE := Lib.hid (show k = n by omega)
        have HO2 := Lib.hid hown
        clear hown
        go_wp2
        go_ret
        refine ⟨rfl, ?_, hb⟩
        rw [← HCA.out]
        have e1 := HO2.out
        rw [HE.out] at e1
        exact e1
theorem jn_take {sep : List UInt8} {l : List (List UInt8)} {k : Nat} (hk : k < l.length) (h0 : 0 < k) : P.jn sep (l.take (k + 1)) = P.jn sep (l.take k) ++ sep ++ l[k] := by
  rw [List.take_succ_eq_append_getElem hk, P.jn_snoc]
  intro e
  have : (l.take k).length = 0 := by rw [e]; rfl
  rw [List.length_take] at this
  omega
theorem jn_take0 {sep : List UInt8} {l : List (List UInt8)} (hk : 0 < l.length) : P.jn sep (l.take (0 + 1)) = l[0] := by
  rw [List.take_succ_eq_append_getElem hk]; simp [P.jn]
theorem jn_take_step {sep : List UInt8} {l : List (List UInt8)} {k : Nat} (hk : k < l.length) : (P.jn sep (l.take k)).length ≤ (P.jn sep (l.take (k + 1))).length := by
  rcases Nat.eq_zero_or_pos k with h | h
  · subst h; simp [P.jn]
  · rw [jn_take hk h, List.length_append, List.length_append]; omega
theorem jn_take_le {sep : List UInt8} {l : List (List UInt8)} (k : Nat) : (P.jn sep (l.take k)).length ≤ (P.jn sep l).length := by
  have : ∀ d, (P.jn sep (l.take (l.length - d))).length ≤ (P.jn sep l).length := by
    intro d
    induction d with
    | zero => rw [Nat.sub_zero, List.take_length]; omega
    | succ d ih =>
      by_cases h : l.length - d = 0
      · have : l.length - (d + 1) = 0 := by omega
        rw [this]; simp [P.jn]
      · have e : l.length - d = (l.length - (d + 1)) + 1 := by omega
        rw [e] at ih
        exact Nat.le_trans (jn_take_step (by omega)) ih
  rcases Nat.lt_or_ge k l.length with h | h
  · have := this (l.length - k)
    rwa [show l.length - (l.length - k) = k by omega] at this
  · rw [List.take_of_length_le h]; omega
theorem js_sep {l : List (List UInt8)} {s : ByteArray} (h : s.size ≠ 1) : P.jsOk l (B s) = false := by unfold P.jsOk; rw [B_len, decide_eq_false h]; rfl
theorem js_nil {s : ByteArray} : P.jsOk [] (B s) = false := by unfold P.jsOk; simp
theorem jsT_no {l : List (List UInt8)} {s : List UInt8} (h : P.jsOk l s = false) : P.jsT l s = [] := by unfold P.jsT; rw [h]; rfl
theorem jsT_yes {l : List (List UInt8)} {s : List UInt8} (h : P.jsOk l s = true) : P.jsT l s = P.jn s l := by unfold P.jsT; rw [h]; rfl
theorem B_one {s : ByteArray} (h : s.size = 1) : B s = [s[0]'(by omega)] := by
  have h1 := B_head s (by omega)
  have h2 := B_len s
  cases hb : B s with
  | nil => rw [hb] at h2; simp at h2; omega
  | cons a t =>
    rw [hb] at h1 h2
    simp at h1 h2
    have : t = [] := List.eq_nil_of_length_eq_zero (by omega)
    rw [this, h1]
theorem js_has {l : List (List UInt8)} {b : UInt8} {k : Nat} (hk : k < l.length) (h : P.hasB b (l[k]) = true) : P.jsOk l [b] = false := by
  unfold P.jsOk
  have : l.all (fun p => !P.hasB (([b] : List UInt8).headD 0) p) = false := by
    rw [Bool.eq_false_iff]; intro e
    have := List.all_eq_true.1 e _ (List.getElem_mem hk)
    rw [show ([b] : List UInt8).headD 0 = b from rfl, h] at this; simp at this
  rw [this]; simp
theorem js_long {l : List (List UInt8)} {b : UInt8} (h : 4000 < (P.jn [b] l).length) : P.jsOk l [b] = false := by
  unfold P.jsOk; rw [decide_eq_false (p := (P.jn [b] l).length ≤ 4000) (by omega), Bool.and_false]
theorem js_yes {l : List (List UInt8)} {b : UInt8} (h0 : l ≠ []) (h : ∀ x ∈ l, P.hasB b x = false) (h4 : (P.jn [b] l).length ≤ 4000) : P.jsOk l [b] = true := by
  unfold P.jsOk
  have : l.all (fun p => !P.hasB (([b] : List UInt8).headD 0) p) = true := by
    rw [List.all_eq_true]; intro x hx
    rw [show ([b] : List UInt8).headD 0 = b from rfl, h x hx]; rfl
  rw [this, decide_eq_true h0, decide_eq_true h4]; rfl
theorem jn_len (b : UInt8) (l : List (List UInt8)) : (P.jn [b] l).length = P.sumL l + (l.length - 1) := P.jn_length b l
theorem mem_sum {l : List (List UInt8)} {x : List UInt8} (h : x ∈ l) : x.length ≤ P.sumL l := by
  obtain ⟨a, b, rfl⟩ := List.append_of_mem h
  rw [P.sumL_app]
  have : P.sumL (x :: b) = x.length + P.sumL b := by simp [P.sumL]
  omega
end Go.Proofs.Ytcgbimdlackpeaa
