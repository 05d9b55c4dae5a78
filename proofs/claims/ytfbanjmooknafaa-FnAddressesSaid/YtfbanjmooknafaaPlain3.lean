/-
  Plain facts for the great laws: bits.
-/
import Derived.Test.YtfbanjmooknafaaPlain2
namespace Go.Proofs.Ytfbanjmooknafaa.P
set_option linter.unusedSimpArgs false
set_option linter.unusedVariables false
theorem xorL_at {a b : List UInt8} {i : Nat} (ha : i < a.length) (hb : i < b.length) : (xorL a b)[i]? = some (if a[i] = b[i] then 48 else 49) := by
  unfold xorL
  rw [List.getElem?_zipWith, List.getElem?_eq_getElem ha, List.getElem?_eq_getElem hb]
theorem xor_back : ∀ {a b : List UInt8}, a.all bitB = true → b.all bitB = true → a.length = b.length → xorL (xorL a b) b = a := by
  intro a
  induction a with
  | nil => intro b _ _ _; cases b <;> rfl
  | cons x a ih =>
    intro b ha hb hl
    cases b with
    | nil => simp at hl
    | cons y b =>
      simp only [List.all_cons, Bool.and_eq_true] at ha hb
      have h := ih ha.2 hb.2 (by simpa using hl)
      have hx : (if (if x = y then (48 : UInt8) else 49) = y then (48 : UInt8) else 49) = x := by
        rcases (bitB_iff x).1 ha.1 with rfl | rfl <;> rcases (bitB_iff y).1 hb.1 with rfl | rfl <;> rfl
      show (if (if x = y then (48 : UInt8) else 49) = y then (48 : UInt8) else 49) :: xorL (xorL a b) b = x :: a
      rw [hx, h]
theorem ones_xor : ∀ {a b : List UInt8}, a.all bitB = true → b.all bitB = true → a.length = b.length → ∃ c, onesL (xorL a b) + 2 * c = onesL a + onesL b := by
  intro a
  induction a with
  | nil => intro b _ _ hl; cases b with
    | nil => exact ⟨0, rfl⟩
    | cons y b => simp at hl
  | cons x a ih =>
    intro b ha hb hl
    cases b with
    | nil => simp at hl
    | cons y b =>
      simp only [List.all_cons, Bool.and_eq_true] at ha hb
      obtain ⟨c, hc⟩ := ih ha.2 hb.2 (by simpa using hl)
      have e : xorL (x :: a) (y :: b) = (if x = y then (48 : UInt8) else 49) :: xorL a b := rfl
      rw [e]
      unfold onesL at *
      rcases (bitB_iff x).1 ha.1 with rfl | rfl <;> rcases (bitB_iff y).1 hb.1 with rfl | rfl
      · exact ⟨c, by simp [List.count_cons] at *; omega⟩
      · exact ⟨c, by simp [List.count_cons] at *; omega⟩
      · exact ⟨c, by simp [List.count_cons] at *; omega⟩
      · exact ⟨c + 1, by simp [List.count_cons] at *; omega⟩
theorem xor_flip {l : List UInt8} (h : l.all bitB = true) {i : Nat} (hi : i < l.length) : xorL l (flipL l i) = single l.length i := by
  have h1 := flipL_xor h hi
  have h2 := xor_back (a := single l.length i) (b := l) (single_bits _ _) h (single_len _ _)
  have hc : ∀ a b : List UInt8, xorL a b = xorL b a := by
    intro a
    induction a with
    | nil => intro b; cases b <;> rfl
    | cons x a ih =>
      intro b
      cases b with
      | nil => rfl
      | cons y b =>
        show (if x = y then (48 : UInt8) else 49) :: xorL a b = (if y = x then (48 : UInt8) else 49) :: xorL b a
        rw [ih b]
        congr 1
        by_cases hxy : x = y
        · rw [if_pos hxy, if_pos hxy.symm]
        · rw [if_neg hxy, if_neg (fun e => hxy e.symm)]
  rw [h1, hc l (xorL l _), hc l (single _ _)]
  exact h2
theorem ones_single {n i : Nat} (hi : i < n) : onesL (single n i) = 1 := by
  unfold onesL single zeros
  rw [List.count_set (by simpa using hi)]
  have : List.count (49 : UInt8) (List.replicate n 48) = 0 := List.count_eq_zero.2 (fun e => by have := List.eq_of_mem_replicate e; exact absurd this (by decide))
  simp [this]
theorem single_get {n i : Nat} (hi : i < n) : (single n i)[i]? = some 49 := by
  unfold single
  rw [List.getElem?_set_self (by rw [zeros_len]; exact hi)]
end Go.Proofs.Ytfbanjmooknafaa.P
