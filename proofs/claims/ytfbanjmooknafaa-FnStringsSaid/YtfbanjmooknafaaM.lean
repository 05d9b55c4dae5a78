/-
  Contracts of the laws' helpers on slices: equal, marked, held; the text of a mark.
-/
import Derived.Test.YtfbanjmooknafaaW
import Derived.Deep.RegionHeld3
namespace Go.Proofs.Ytfbanjmooknafaa
open Go.RowKit
set_option linter.unusedSimpArgs false
set_option linter.unusedVariables false

/-- the text of the mark k -/
def mkT (k : Nat) : List UInt8 := 109 :: P.dec k
def decZ (k : Nat) : List UInt8 := if k = 0 then [] else P.dec k
theorem decZ_step (k : Nat) (h : 0 < k) : decZ k = decZ (k / 10) ++ [P.dg (k % 10)] := by
  unfold decZ
  rw [if_neg (by omega)]
  rcases Nat.lt_or_ge k 10 with h1 | h1
  · rw [if_pos (by omega), P.dec_small h1, Nat.mod_eq_of_lt h1]; rfl
  · rw [if_neg (by omega), P.dec_big h1]
/-- a slice that holds these cells -/
def Holds (w : World) (A : Option Addr) (xs : List Value) : Prop := (xs ≠ [] → ∃ g o, A = some ⟨g, o, none⟩ ∧ ∀ (j : Nat) (u : Value), xs[j]? = some u → w.cell? ⟨g, o + j, none⟩ = some u)
theorem holds_own {w : World} {base T n c : Nat} {A : Option Addr} {xs : List Value} (h : w.ownsRow base T 1 (.slice A n c) n xs) : Holds w A xs := by
  intro hne
  have hn : 0 < n := by
    have := h.1
    rcases Nat.eq_zero_or_pos n with h0 | h0
    · subst h0; simp at this; exact absurd this hne
    · exact h0
  obtain ⟨g, cap, hv, _⟩ := own_form h hn
  injection hv with hA _ hc
  subst hA hc
  refine ⟨g, 0, rfl, fun j u hj => ?_⟩
  have hj' : j < n * 1 := by
    rw [← h.1]
    exact (List.getElem?_eq_some_iff.1 hj).1
  rw [Nat.zero_add, h.cellAt j hj', hj]
/-- the cells after j marks from k0 on -/
def marked (k0 : Nat) (xs : List Value) (j : Nat) : List Value := ((List.range j).map fun i => vs (mkT (k0 + i))) ++ xs.drop j
theorem marked_zero (k0 : Nat) (xs : List Value) : marked k0 xs 0 = xs := by simp [marked]
theorem marked_len (k0 : Nat) (xs : List Value) (j : Nat) (h : j ≤ xs.length) : (marked k0 xs j).length = xs.length := by simp [marked]; omega
theorem marked_step (k0 : Nat) (xs : List Value) (j : Nat) (h : j < xs.length) : (marked k0 xs j).set j (vs (mkT (k0 + j))) = marked k0 xs (j + 1) := by
  unfold marked
  rw [List.set_append_right _ _ (by simp)]
  simp only [List.length_map, List.length_range, Nat.sub_self]
  rw [List.drop_eq_getElem_cons h, List.set_cons_zero, List.range_succ, List.map_append, List.append_assoc]; rfl
theorem marked_all (k0 : Nat) (xs : List Value) : marked k0 xs xs.length = (List.range xs.length).map fun i => vs (mkT (k0 + i)) := by simp [marked]
theorem only_grown {a w w1 : World} {g : Nat} (h : a.grownBy w (some g)) (hb : Below w.heap.size w w1) : a.grownBy w1 (some g) :=
  ⟨hb.os.trans h.os, hb.tape.trans h.tape, hb.output.trans h.output, Nat.le_trans h.size hb.size, fun i hi hn => (hb.block i (Nat.lt_of_lt_of_le hi h.size)).trans (h.block i hi hn)⟩
theorem only_trans {a w w1 : World} {g : Nat} (h : a.grownBy w (some g)) (hb : w.grownBy w1 (some g)) : a.grownBy w1 (some g) :=
  ⟨hb.os.trans h.os, hb.tape.trans h.tape, hb.output.trans h.output, Nat.le_trans h.size hb.size, fun i hi hn => (hb.block i (Nat.lt_of_lt_of_le hi h.size) hn).trans (h.block i hi hn)⟩
theorem own_below {w w' : World} {base e n : Nat} {v : Value} {xs : List Value} (h : w.ownsRow base e 1 v n xs) (hb : Below w.heap.size w w') : w'.ownsRow base e 1 v n xs :=
  h.kept (row := Option.none) ⟨hb.os, hb.tape, hb.output, hb.size, fun i hi _ => hb.block i hi⟩ (by cases hv : v.ownBlock <;> simp)
theorem held_drew {w w' : World} {g j : Nat} {v : Value} (h1 : w'.cell? ⟨g, j, none⟩ = some v) (h2 : g < w'.heap.size) (h3 : Below w.heap.size w w') :
    w'.drew.cell? ⟨g, j, none⟩ = some v ∧ g < w'.drew.heap.size ∧ Below w.heap.size w w'.drew := ⟨h1, h2, h3.drew⟩
theorem held_keep {w w' w1 : World} {g j : Nat} {v : Value} (h4 : Below w'.heap.size w' w1) (h1 : w'.cell? ⟨g, j, none⟩ = some v) (h2 : g < w'.heap.size) (h3 : Below w.heap.size w w') :
    w1.cell? ⟨g, j, none⟩ = some v ∧ g < w1.heap.size ∧ Below w.heap.size w w1 :=
  ⟨(h4.cell (p := ⟨g, j, none⟩) h2).trans h1, Nat.lt_of_lt_of_le h2 h4.size, h3.trans (h4.mono h3.size)⟩
theorem own_cases {w : World} {base T n c : Nat} {A : Option Addr} {xs : List Value} (h : w.ownsRow base T 1 (.slice A n c) n xs) : (n = 0 ∧ xs = []) ∨ (xs.length = n ∧ ∃ g, A = some ⟨g, 0, none⟩) := by
  rcases Nat.eq_zero_or_pos n with h0 | h0
  · subst h0
    exact .inl ⟨rfl, List.eq_nil_of_length_eq_zero (by simpa using h.1)⟩
  · obtain ⟨g, cap, hv, _⟩ := own_form h h0
    injection hv with hA _ _
    exact .inr ⟨by simpa using h.1, g, hA⟩
end Go.Proofs.Ytfbanjmooknafaa
