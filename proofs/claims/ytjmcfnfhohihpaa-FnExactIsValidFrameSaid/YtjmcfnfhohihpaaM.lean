/-
  Contracts of the laws' helpers on slices: equal, marked, held; the text of a mark.
-/
import Derived.Test.YtjmcfnfhohihpaaW
import Derived.Deep.RegionHeld3
namespace Go.Proofs.Ytjmcfnfhohihpaa
open Go.RowKit
set_option linter.unusedSimpArgs false
set_option linter.unusedVariables false

/-- the text of the mark k -/
def mkT (k : Nat) : List UInt8 := 109 :: P.dec k
def decZ (k : Nat) : List UInt8 := if k = 0 then [] else P.dec k
theorem decZ_step (k : Nat) (h : 0 < k) : decZ k = decZ (k / 10) ++ [P.dg (k % 10)] := by
  unfold decZ
  rw [if_neg (by omega)]
  rcases Nat.lt_or_ge k 10 with h1 | h1
  · rw [if_pos (by omega), P.dec_small h1, Nat.mod_eq_of_lt h1]; rfl
  · rw [if_neg (by omega), P.dec_big h1]
theorem c_markText (n : Int) (w : World) (h0 : 0 < n) (h1 : n ≤ 999999999) : Calls Try.prog 52 #[.int .i64 n] w fun e w' => e = .returned (.string (bs (mkT n.toNat))) ∧ Below w.heap.size w w' := by
  have hdl := P.dec_len 9 n.toNat (by omega) (by simp; omega)
  have HD0 := Lib.hid (show decZ n.toNat = P.dec n.toNat by unfold decZ; rw [if_neg (by omega)])
  go_enter Try.func52, Try.ntmps52
  go_wp2
  go_loopw [0, 3] (fun m o wr => ∃ (k : Nat) (l : List UInt8), k ≤ 999999999 ∧ m = .int .i64 k ∧ o = .string (bs l) ∧ P.dec n.toNat = decZ k ++ l ∧ Below w.heap.size w wr) (fun m _ _ => (intOf m).toNat)
  case atStart => exact ⟨n.toNat, [], by omega, by go_num, rfl, by rw [HD0.out]; simp, Below.refl _ _⟩
  case round =>
    obtain ⟨k, l, hk, rfl, rfl, he, hb⟩ := hrel
    have hl := congrArg List.length he
    rw [List.length_append] at hl
    have hl2 : l.length ≤ 9 := by omega
    have HE := Lib.hid he
    clear he hl hdl
    have hsz := hb.size
    have hcv := fun (W : World) (x : Int) => run_str_one (P := Try.prog) 58 9 5 Try.underlying58 Try.underlying5 Try.underlying9 W x
    have hdg : UInt8.ofNat ((48 : Int) + (k : Int) % 10).toNat = P.dg (k % 10) := by unfold P.dg; congr 1
    have hadd : ∀ W, (Op.stringOp .add (bs [P.dg (k % 10)]) (bs l)).run Try.prog W = .ok (.string (bs (P.dg (k % 10) :: l))) W := fun W => run_add W _ _ (by simp; omega)
    have hadd2 : ∀ W, (Op.stringOp .add ⟨#[109]⟩ (bs l)).run Try.prog W = .ok (.string (bs (109 :: l))) W := fun W => run_add W [109] _ (by simp; omega)
    by_cases h10 : k < 1
    · have HR := Lib.hid (show 109 :: l = mkT n.toNat by
        unfold mkT; rw [HE.out]
        have : k = 0 := by omega
        subst this; rfl)
      go_wp2
      go_ret
      exact ⟨ret_bs HR.out, hb⟩
    · have HR := Lib.hid (show P.dec n.toNat = decZ (k / 10) ++ P.dg (k % 10) :: l by rw [HE.out, decZ_step k (by omega)]; simp)
      go_wp2
      go_roundw
      case rel => exact ⟨k / 10, _, by omega, by go_num, rfl, HR.out, hb.alloc hsz _⟩
      case measure => simp [intOf]; omega
/-- a slice that holds these cells -/
def Holds (w : World) (A : Option Addr) (xs : List Value) : Prop := (xs ≠ [] → ∃ g o, A = some ⟨g, o, none⟩ ∧ ∀ (j : Nat) (u : Value), xs[j]? = some u → w.cell? ⟨g, o + j, none⟩ = some u)
theorem holds_own {w : World} {base T n c : Nat} {A : Option Addr} {xs : List Value} (h : w.ownsRow base T 1 (.slice A n c) n xs) : Holds w A xs := by
  intro hne
  have hn : 0 < n := by
    have := h.1
    rcases Nat.eq_zero_or_pos n with h0 | h0
    · subst h0; simp at this; exact absurd this hne
    · exact h0
  obtain ⟨g, cap, hv, _⟩ := own_form h hn
  injection hv with hA _ hc
  subst hA hc
  refine ⟨g, 0, rfl, fun j u hj => ?_⟩
  have hj' : j < n * 1 := by
    rw [← h.1]
    exact (List.getElem?_eq_some_iff.1 hj).1
  rw [Nat.zero_add, h.cellAt j hj', hj]
theorem c_eqStringS (A A' : Option Addr) (c c' : Nat) (l : List (List UInt8)) (w : World) (h : Holds w A (l.map vs)) (h' : Holds w A' (l.map vs)) (hl : l.length ≤ 2097152) :
    Calls Try.prog 25 #[.slice A l.length c, .slice A' l.length c'] w fun e w' => e = .returned (.bool true) ∧ Qt w w' := by
  by_cases hn : l = []
  · subst hn
    go_enter Try.func25, Try.ntmps25
    go_wp2
    refine wp_loop_rounds 1 ?_
    rw [rounds_succ]
    go_wp2
    go_ret
    exact ⟨rfl, Qt.refl _⟩
  · obtain ⟨g, o, rfl, hc⟩ := h (by simpa using hn)
    obtain ⟨g', o', rfl, hc'⟩ := h' (by simpa using hn)
    clear h h' hn
    obtain ⟨n, hnl⟩ : ∃ n, l.length = n := ⟨_, rfl⟩
    rw [hnl] at hl ⊢
    have HC := Lib.hid hc
    have HC' := Lib.hid hc'
    have HNL := Lib.hid hnl
    clear hc hc' hnl
    go_enter Try.func25, Try.ntmps25
    go_wp2
    go_loopw [5] (fun i wr => ∃ k : Nat, k ≤ n ∧ i = .int .i64 k ∧ Qt w wr) (fun i _ => n - (intOf i).toNat)
    case atStart => exact ⟨0, Nat.zero_le _, rfl, Qt.refl _⟩
    case round =>
      obtain ⟨k, hk, rfl, q, rfl⟩ := hrel
      by_cases hlt : k < n
      · obtain ⟨t, ht⟩ : ∃ t, l[k]'(by rw [HNL.out]; exact hlt) = t := ⟨_, rfl⟩
        have hlk : (l.map vs)[k]? = some (.string (bs t)) := by
          rw [List.getElem?_map, List.getElem?_eq_getElem (by rw [HNL.out]; exact hlt), ht]; rfl
        have hc1 := HC.out k _ hlk
        have hc2 := HC'.out k _ hlk
        clear hlk ht
        go_wp2
        go_quiet (fail)
        go_wp2
        go_roundw
        case rel => exact ⟨k + 1, by omega, by go_num, Qt.of _ _⟩
        case measure => simp [intOf]; omega
      · go_wp2
        go_ret
        exact ⟨rfl, Qt.of _ _⟩
/-- the cells after j marks from k0 on -/
def marked (k0 : Nat) (xs : List Value) (j : Nat) : List Value := ((List.range j).map fun i => vs (mkT (k0 + i))) ++ xs.drop j
theorem marked_zero (k0 : Nat) (xs : List Value) : marked k0 xs 0 = xs := by simp [marked]
theorem marked_len (k0 : Nat) (xs : List Value) (j : Nat) (h : j ≤ xs.length) : (marked k0 xs j).length = xs.length := by simp [marked]; omega
theorem marked_step (k0 : Nat) (xs : List Value) (j : Nat) (h : j < xs.length) : (marked k0 xs j).set j (vs (mkT (k0 + j))) = marked k0 xs (j + 1) := by
  unfold marked
  rw [List.set_append_right _ _ (by simp)]
  simp only [List.length_map, List.length_range, Nat.sub_self]
  rw [List.drop_eq_getElem_cons h, List.set_cons_zero, List.range_succ, List.map_append, List.append_assoc]; rfl
theorem marked_all (k0 : Nat) (xs : List Value) : marked k0 xs xs.length = (List.range xs.length).map fun i => vs (mkT (k0 + i)) := by simp [marked]
theorem only_grown {a w w1 : World} {g : Nat} (h : a.grownBy w (some g)) (hb : Below w.heap.size w w1) : a.grownBy w1 (some g) :=
  ⟨hb.os.trans h.os, hb.tape.trans h.tape, hb.output.trans h.output, Nat.le_trans h.size hb.size, fun i hi hn => (hb.block i (Nat.lt_of_lt_of_le hi h.size)).trans (h.block i hi hn)⟩
theorem only_trans {a w w1 : World} {g : Nat} (h : a.grownBy w (some g)) (hb : w.grownBy w1 (some g)) : a.grownBy w1 (some g) :=
  ⟨hb.os.trans h.os, hb.tape.trans h.tape, hb.output.trans h.output, Nat.le_trans h.size hb.size, fun i hi hn => (hb.block i (Nat.lt_of_lt_of_le hi h.size) hn).trans (h.block i hi hn)⟩
theorem own_below {w w' : World} {base e n : Nat} {v : Value} {xs : List Value} (h : w.ownsRow base e 1 v n xs) (hb : Below w.heap.size w w') : w'.ownsRow base e 1 v n xs :=
  h.kept (row := Option.none) ⟨hb.os, hb.tape, hb.output, hb.size, fun i hi _ => hb.block i hi⟩ (by cases hv : v.ownBlock <;> simp)
theorem c_markStringS (g c : Nat) (xs : List Value) (base : Nat) (k0 : Nat) (w : World) (h : w.ownsRow base 9 1 (.slice (some ⟨g, 0, none⟩) xs.length c) xs.length xs) (hl : xs.length ≤ 2097152) (hk : 0 < k0) (hk2 : k0 ≤ 4194304) :
    Calls Try.prog 26 #[.slice (some ⟨g, 0, none⟩) xs.length c, .int .i64 k0] w fun e w' => e = .returned (.int .i64 (k0 + xs.length : Nat)) ∧
      w'.ownsRow base 9 1 (.slice (some ⟨g, 0, none⟩) xs.length c) xs.length ((List.range xs.length).map fun i => vs (mkT (k0 + i))) ∧ w.grownBy w' (some g) := by
  obtain ⟨n, hn⟩ : ∃ n, xs.length = n := ⟨_, rfl⟩
  have hm0 := marked_zero k0 xs
  rw [hn] at h hl ⊢
  have HN := Lib.hid hn
  have HM0 := Lib.hid hm0
  have H0 := Lib.hid h
  clear hn hm0 h
  go_enter Try.func26, Try.ntmps26
  go_wp2
  go_loopw [1, 5] (fun k i wr => ∃ j : Nat, j ≤ n ∧ i = .int .i64 j ∧ k = .int .i64 (k0 + j : Nat) ∧ wr.ownsRow base 9 1 (.slice (some ⟨g, 0, none⟩) n c) n (marked k0 xs j) ∧ w.grownBy wr (some g)) (fun _ i _ => n - (intOf i).toNat)
  case atStart => exact ⟨0, Nat.zero_le _, rfl, rfl, by rw [HM0.out]; exact H0.out, World.grownBy.refl _ _⟩
  case round =>
    obtain ⟨j, hj, rfl, rfl, hown, hgr⟩ := hrel
    by_cases hlt : j < n
    · have hms := Lib.hid (marked_step k0 xs j (by rw [HN.out]; exact hlt))
      have hml := marked_len k0 xs j (by rw [HN.out]; omega)
      have HO := Lib.hid hown
      clear hown
      go_wp2_with (go_at_call 52; refine (c_markText _ _ (by omega) (by omega)).mono ?_; rintro e w1 ⟨rfl, hb1⟩; have hown1 := own_below HO.out hb1; have hc1 : w1.cell? ⟨g, j, none⟩ = some ((marked k0 xs j)[j]'(by rw [hml, HN.out]; exact hlt)) := (by rw [hown1.cellAt j (by omega)]; exact List.getElem?_eq_getElem _); have hf1 := hown1.frozenAt j; have HO1 := Lib.hid hown1; clear hown1)
      have hst := HO1.out.stored j (vs (mkT (k0 + j)))
      rw [hms.out] at hst
      go_roundw
      case rel => exact ⟨j + 1, by omega, by go_num, by go_num, hst.1, only_trans (only_grown hgr hb1) hst.2⟩
      case measure => simp [intOf]; omega
    · have HE := Lib.hid (show j = n by omega)
      go_wp2
      go_ret
      refine ⟨ret_int (by rw [HE.out]), ?_, hgr⟩
      have := marked_all k0 xs
      rw [HN.out] at this
      rw [← this, ← HE.out]
      have e := HE.out
      subst e
      exact hown
theorem held_drew {w w' : World} {g j : Nat} {v : Value} (h1 : w'.cell? ⟨g, j, none⟩ = some v) (h2 : g < w'.heap.size) (h3 : Below w.heap.size w w') :
    w'.drew.cell? ⟨g, j, none⟩ = some v ∧ g < w'.drew.heap.size ∧ Below w.heap.size w w'.drew := ⟨h1, h2, h3.drew⟩
theorem held_keep {w w' w1 : World} {g j : Nat} {v : Value} (h4 : Below w'.heap.size w' w1) (h1 : w'.cell? ⟨g, j, none⟩ = some v) (h2 : g < w'.heap.size) (h3 : Below w.heap.size w w') :
    w1.cell? ⟨g, j, none⟩ = some v ∧ g < w1.heap.size ∧ Below w.heap.size w w1 :=
  ⟨(h4.cell (p := ⟨g, j, none⟩) h2).trans h1, Nat.lt_of_lt_of_le h2 h4.size, h3.trans (h4.mono h3.size)⟩
theorem c_heldStringS (g c : Nat) (n : Nat) (base : Nat) (k0 : Nat) (w : World) (h : w.ownsRow base 9 1 (.slice (some ⟨g, 0, none⟩) n c) n ((List.range n).map fun i => vs (mkT (k0 + i)))) (hl : n ≤ 2097152) (hk : 0 < k0) (hk2 : k0 ≤ 4194304) :
    Calls Try.prog 27 #[.slice (some ⟨g, 0, none⟩) n c, .int .i64 k0] w fun e w' => e = .returned (.int .i64 (k0 + n : Nat)) ∧ Below w.heap.size w w' := by
  have H0 := Lib.hid h
  clear h
  go_enter Try.func27, Try.ntmps27
  go_wp2
  go_loopw [1, 5] (fun k i wr => ∃ j : Nat, j ≤ n ∧ i = .int .i64 j ∧ k = .int .i64 (k0 + j : Nat) ∧ Below w.heap.size w wr) (fun _ i _ => n - (intOf i).toNat)
  case atStart => exact ⟨0, Nat.zero_le _, rfl, rfl, Below.refl _ _⟩
  case round =>
    obtain ⟨j, hj, rfl, rfl, hb⟩ := hrel
    by_cases hlt : j < n
    · have hown := own_below H0.out hb
      have hc : wr.cell? ⟨g, j, none⟩ = some (.string (bs (mkT (k0 + j)))) := by
        rw [hown.cellAt j (by omega), List.getElem?_map, List.getElem?_range hlt]; rfl
      have hgs : g < wr.heap.size := by
        obtain ⟨_, _, cur, hv, _, hh, _⟩ := hown.2.resolve_left (fun e => by simp at e)
        simp only [Value.slice.injEq, Option.some.injEq, Addr.mk.injEq, and_true, true_and] at hv
        obtain ⟨rfl, _⟩ := hv
        exact (Array.getElem?_eq_some_iff.1 hh).1
      clear hown
      have hkn : ((k0 : Int) + (j : Int)).toNat = k0 + j := by omega
      go_wp2_with fail
      go_region_held3 (fun w' => w'.cell? ⟨g, j, none⟩ = some (.string (bs (mkT (k0 + j)))) ∧ g < w'.heap.size ∧ Below w.heap.size w w') (first | (exact held_drew (by assumption) (by assumption) (by assumption)) | (go_split_ands; exact held_keep hb1 (by assumption) (by assumption) (by assumption)) | go_keep)
        (first | (go_at_call 52; refine (c_markText _ _ (by omega) (by omega)).mono ?_; rintro e w1 ⟨rfl, hb1⟩))
      obtain ⟨_, _, hB⟩ : _ ∧ _ ∧ Below w.heap.size w w1 := by assumption
      go_wp2
      go_roundw
      case rel => exact ⟨j + 1, by omega, by go_num, by go_num, hB⟩
      case measure => simp [intOf]; omega
    · have HE := Lib.hid (show j = n by omega)
      go_wp2
      go_ret
      exact ⟨ret_int (by rw [HE.out]), hb⟩
theorem own_cases {w : World} {base T n c : Nat} {A : Option Addr} {xs : List Value} (h : w.ownsRow base T 1 (.slice A n c) n xs) : (n = 0 ∧ xs = []) ∨ (xs.length = n ∧ ∃ g, A = some ⟨g, 0, none⟩) := by
  rcases Nat.eq_zero_or_pos n with h0 | h0
  · subst h0
    exact .inl ⟨rfl, List.eq_nil_of_length_eq_zero (by simpa using h.1)⟩
  · obtain ⟨g, cap, hv, _⟩ := own_form h h0
    injection hv with hA _ _
    exact .inr ⟨by simpa using h.1, g, hA⟩
theorem c_markS (A : Option Addr) (n c : Nat) (xs : List Value) (base : Nat) (k0 : Nat) (w : World) (h : w.ownsRow base 9 1 (.slice A n c) n xs) (hl : n ≤ 2097152) (hk : 0 < k0) (hk2 : k0 ≤ 4194304) :
    Calls Try.prog 26 #[.slice A n c, .int .i64 k0] w fun e w' => e = .returned (.int .i64 (k0 + n : Nat)) ∧
      w'.ownsRow base 9 1 (.slice A n c) n ((List.range n).map fun i => vs (mkT (k0 + i))) ∧ w.grownBy w' (Value.slice A n c).ownBlock := by
  rcases own_cases h with ⟨rfl, rfl⟩ | ⟨hx, g, rfl⟩
  · have H := Lib.hid h
    clear h
    go_enter Try.func26, Try.ntmps26
    go_wp2
    refine wp_loop_rounds 1 ?_
    rw [rounds_succ]
    go_wp2
    go_ret
    exact ⟨rfl, H.out, World.grownBy.refl _ _⟩
  · subst hx
    exact c_markStringS g c xs base k0 w h hl hk hk2
theorem c_heldS (A : Option Addr) (n c : Nat) (base : Nat) (k0 : Nat) (w : World) (h : w.ownsRow base 9 1 (.slice A n c) n ((List.range n).map fun i => vs (mkT (k0 + i)))) (hl : n ≤ 2097152) (hk : 0 < k0) (hk2 : k0 ≤ 4194304) :
    Calls Try.prog 27 #[.slice A n c, .int .i64 k0] w fun e w' => e = .returned (.int .i64 (k0 + n : Nat)) ∧ Below w.heap.size w w' := by
  rcases own_cases h with ⟨rfl, hx⟩ | ⟨hx, g, rfl⟩
  · clear h hx
    go_enter Try.func27, Try.ntmps27
    go_wp2
    refine wp_loop_rounds 1 ?_
    rw [rounds_succ]
    go_wp2
    go_ret
    exact ⟨rfl, Below.refl _ _⟩
  · exact c_heldStringS g c n base k0 w h hl hk hk2
theorem c_markS1 (A : Option Addr) (n c : Nat) (xs : List Value) (base : Nat) (w : World) (h : w.ownsRow base 9 1 (.slice A n c) n xs) (hl : n ≤ 2097152) :
    Calls Try.prog 26 #[.slice A n c, .int .i64 1] w fun e w' => e = .returned (.int .i64 (1 + n : Nat)) ∧
      w'.ownsRow base 9 1 (.slice A n c) n ((List.range n).map fun i => vs (mkT (1 + i))) ∧ w.grownBy w' (Value.slice A n c).ownBlock := c_markS A n c xs base 1 w h hl (by omega) (by omega)
theorem c_heldS1 (A : Option Addr) (n c : Nat) (base : Nat) (w : World) (h : w.ownsRow base 9 1 (.slice A n c) n ((List.range n).map fun i => vs (mkT (1 + i)))) (hl : n ≤ 2097152) :
    Calls Try.prog 27 #[.slice A n c, .int .i64 1] w fun e w' => e = .returned (.int .i64 (1 + n : Nat)) ∧ Below w.heap.size w w' := c_heldS A n c base 1 w h hl (by omega) (by omega)
end Go.Proofs.Ytjmcfnfhohihpaa
