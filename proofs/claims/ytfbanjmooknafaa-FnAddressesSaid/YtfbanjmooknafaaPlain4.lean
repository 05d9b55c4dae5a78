/-
  Plain facts for the law on the nearest names.
-/
import Derived.Test.YtfbanjmooknafaaPlain3
namespace Go.Proofs.Ytfbanjmooknafaa.P
set_option linter.unusedSimpArgs false
set_option linter.unusedVariables false
theorem xor_same : ∀ {a b : List UInt8}, a.all bitB = true → b.all bitB = true → a.length = b.length → (onesL (xorL a b) = 0 ↔ a = b) := by
  intro a
  induction a with
  | nil => intro b _ _ hl; cases b with
    | nil => exact ⟨fun _ => rfl, fun _ => rfl⟩
    | cons y b => simp at hl
  | cons x a ih =>
    intro b ha hb hl
    cases b with
    | nil => simp at hl
    | cons y b =>
      simp only [List.all_cons, Bool.and_eq_true] at ha hb
      have h := ih ha.2 hb.2 (by simpa using hl)
      have e : xorL (x :: a) (y :: b) = (if x = y then (48 : UInt8) else 49) :: xorL a b := rfl
      rw [e]
      by_cases hxy : x = y
      · subst hxy
        rw [if_pos rfl]
        have e2 : onesL ((48 : UInt8) :: xorL a b) = onesL (xorL a b) := by unfold onesL; simp
        rw [e2, h]
        exact ⟨fun e => by rw [e], fun e => by injection e⟩
      · rw [if_neg hxy]
        have e2 : onesL ((49 : UInt8) :: xorL a b) = onesL (xorL a b) + 1 := by unfold onesL; simp
        rw [e2]
        exact ⟨fun e => by omega, fun e => by injection e with e1 _; exact absurd e1 hxy⟩
/-- the distance of the name at a place -/
def nnDs (l : List (List UInt8)) (bits : List UInt8) (i : Nat) : Nat := onesL (xorL (nbL (l.getD i [])) bits)
theorem nnDs_le (l : List (List UInt8)) {bits : List UInt8} (hb : bits.length = 48) (i : Nat) : nnDs l bits i ≤ 48 := by
  unfold nnDs
  have h1 := onesL_le (xorL (nbL (l.getD i [])) bits)
  rw [xorL_len (by rw [nbL_len, hb]), nbL_len] at h1
  exact h1
theorem nn_inv (l : List (List UInt8)) {bits : List UInt8} (hb : bits.length = 48) : ∀ k, 0 < k → (nnTo l bits k).1 < k ∧ nnDs l bits (nnTo l bits k).1 = (nnTo l bits k).2.1 ∧ (∀ j, j < k → (nnTo l bits k).2.1 ≤ nnDs l bits j) ∧
    ((nnTo l bits k).2.2 = false ↔ ∀ j, j < k → j ≠ (nnTo l bits k).1 → (nnTo l bits k).2.1 < nnDs l bits j) := by
  intro k
  induction k with
  | zero => intro h; omega
  | succ k ih =>
    intro _
    have hd := nnDs_le l hb k
    rw [nnTo]
    unfold nnSt
    rw [show onesL (xorL (nbL (l.getD k [])) bits) = nnDs l bits k from rfl]
    rcases Nat.eq_zero_or_pos k with h0 | h0
    · subst h0
      have e : (nnTo l bits 0) = (0, 49, false) := rfl
      rw [e, if_pos (show nnDs l bits 0 < 49 by omega)]
      refine ⟨by omega, rfl, fun j hj => ?_, fun _ j hj hne => ?_, fun _ => rfl⟩
      · have : j = 0 := by omega
        subst this; exact Nat.le_refl _
      · exact absurd (show j = 0 by omega) hne
    · obtain ⟨h1, h2, h3, h4⟩ := ih h0
      obtain ⟨x, hx⟩ : ∃ x, nnTo l bits k = x := ⟨_, rfl⟩
      rw [hx] at h1 h2 h3 h4 ⊢
      obtain ⟨i, n, t⟩ := x
      simp only at h1 h2 h3 h4 ⊢
      by_cases hlt : nnDs l bits k < n
      · rw [if_pos hlt]
        refine ⟨by simp, rfl, fun j hj => ?_, fun _ j hj hne => ?_, fun _ => rfl⟩
        · rcases Nat.lt_or_ge j k with h | h
          · have := h3 j h; simp; omega
          · have : j = k := by omega
            subst this; simp
        · have hjk : j < k := by
            have : j ≠ k := hne
            omega
          have := h3 j hjk
          simp; omega
      · rw [if_neg hlt]
        by_cases he : nnDs l bits k = n
        · rw [if_pos he]
          refine ⟨by simp; omega, h2, fun j hj => ?_, fun h => by simp at h, fun h => ?_⟩
          · rcases Nat.lt_or_ge j k with h | h
            · exact h3 j h
            · have : j = k := by omega
              subst this; simp; omega
          · have := h k (by omega) (by simp; omega)
            simp at this; omega
        · rw [if_neg he]
          refine ⟨by simp; omega, h2, fun j hj => ?_, ?_⟩
          · rcases Nat.lt_or_ge j k with h | h
            · exact h3 j h
            · have : j = k := by omega
              subst this; simp; omega
          · simp only
            rw [h4]
            refine ⟨fun h j hj hne => ?_, fun h j hj hne => h j (by omega) hne⟩
            rcases Nat.lt_or_ge j k with h' | h'
            · exact h j h' hne
            · have : j = k := by omega
              subst this; omega
theorem nn_own {l : List (List UInt8)} {bits : List UInt8} (h : nnOk l bits = true) : ∃ i n : Nat, nnI l bits = i ∧ nnD l bits = n ∧ i < l.length ∧ n ≤ 48 ∧ (∃ hi : i < l.length, nameB (l[i]) = true ∧ (n = 0 ↔ nbL (l[i]) = bits) ∧ nnOk l (nbL (l[i])) = true ∧ nnI l (nbL (l[i])) = i ∧ nnD l (nbL (l[i])) = 0) := by
  have h0 := h
  unfold nnOk nnOk0 at h0
  rw [Bool.and_eq_true, Bool.and_eq_true, Bool.and_eq_true, Bool.and_eq_true, inB_iff, isBits_iff, decide_eq_true_eq] at h0
  obtain ⟨⟨⟨⟨hlen, _, hb⟩, hb48⟩, hall⟩, ht⟩ := h0
  have ht : (nnTo l bits l.length).2.2 = false := by simpa using ht
  have hl : 0 < l.length := by omega
  obtain ⟨p1, p2, p3, p4⟩ := nn_inv l hb48 l.length hl
  obtain ⟨i, hi⟩ : ∃ i, (nnTo l bits l.length).1 = i := ⟨_, rfl⟩
  obtain ⟨n, hn⟩ : ∃ n, (nnTo l bits l.length).2.1 = n := ⟨_, rfl⟩
  have hu := p4.1 ht
  rw [hi] at p1 p2 hu
  rw [hn] at p2 p3 hu
  have e1 : nnI l bits = i := by unfold nnI; rw [if_pos h, hi]
  have e2 : nnD l bits = n := by unfold nnD; rw [if_pos h, hn]
  have hg : l.getD i [] = l[i] := by rw [List.getD_eq_getElem?_getD, List.getElem?_eq_getElem p1]; rfl
  have hn48 : n ≤ 48 := by rw [← p2]; exact nnDs_le l hb48 i
  have hnm : nameB l[i] = true := List.all_eq_true.1 hall _ (List.getElem_mem p1)
  obtain ⟨o, ho⟩ : ∃ o, nbL l[i] = o := ⟨_, rfl⟩
  have hol : o.length = 48 := by rw [← ho, nbL_len]
  have hob : o.all bitB = true := by rw [← ho]; exact nbL_bits _
  have hdi : nnDs l o i = 0 := by
    unfold nnDs; rw [hg, ho]
    exact (xor_same hob hob rfl).2 rfl
  have hdj : ∀ j, j < l.length → j ≠ i → 0 < nnDs l o j := fun j hj hne => by
    rcases Nat.eq_zero_or_pos (nnDs l o j) with hz | hz
    · unfold nnDs at hz
      have e := (xor_same (nbL_bits _) hob (by rw [nbL_len, hol])).1 hz
      have h1 := hu j hj hne
      have h2 : nnDs l bits j = nnDs l bits i := by unfold nnDs; rw [e, hg, ho]
      omega
    · exact hz
  obtain ⟨q1, q2, q3, q4⟩ := nn_inv l hol l.length hl
  have hn0 : (nnTo l o l.length).2.1 = 0 := by have := q3 i p1; omega
  have hi0 : (nnTo l o l.length).1 = i := by
    rcases Nat.decEq (nnTo l o l.length).1 i with hne | heq
    · have := hdj _ q1 hne; omega
    · exact heq
  have ht0 : (nnTo l o l.length).2.2 = false := q4.2 fun j hj hne => by rw [hn0]; exact hdj j hj (by rw [← hi0]; exact hne)
  have hok : nnOk l o = true := by
    unfold nnOk nnOk0
    rw [ht0, hall, decide_eq_true hol, isBits_yes (by omega) hob, inB_iff.2 (by omega)]; rfl
  refine ⟨i, n, e1, e2, p1, hn48, p1, hnm, ?_, ?_, ?_, ?_⟩
  · rw [← p2]
    unfold nnDs
    rw [hg]
    exact xor_same (nbL_bits _) hb (by rw [nbL_len, hb48])
  · rw [ho]; exact hok
  · rw [ho]; unfold nnI; rw [if_pos hok, hi0]
  · rw [ho]; unfold nnD; rw [if_pos hok, hn0]; rfl
end Go.Proofs.Ytfbanjmooknafaa.P
