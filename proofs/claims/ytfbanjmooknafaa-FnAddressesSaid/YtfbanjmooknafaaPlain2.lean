/-
  More plain facts on lists of bytes: names of letters and a number, the nearest of some names, texts of frames.
-/
import Derived.Test.YtfbanjmooknafaaPlain
namespace Go.Proofs.Ytfbanjmooknafaa.P
set_option linter.unusedSimpArgs false
set_option linter.unusedVariables false
/-- how many letters stand first -/
def ldK (l : List UInt8) : Nat := (l.takeWhile letB).length
theorem ldK_of : ∀ {l : List UInt8} {k : Nat}, (l.take k).all letB = true → k ≤ l.length → (∀ h : k < l.length, letB l[k] = false) → ldK l = k := by
  intro l
  induction l with
  | nil => intro k _ hk _; simp at hk; subst hk; rfl
  | cons c t ih =>
    intro k h1 h2 h3
    cases k with
    | zero =>
      have := h3 (by simp)
      simp at this
      unfold ldK; rw [List.takeWhile_cons, this]; rfl
    | succ k =>
      simp only [List.take_succ_cons, List.all_cons, Bool.and_eq_true] at h1
      have := ih h1.2 (by simpa using h2) (fun h => by have := h3 (by simp; omega); simpa using this)
      unfold ldK at this ⊢
      rw [List.takeWhile_cons, h1.1]
      simp [this]
theorem ldK_le (l : List UInt8) : ldK l ≤ l.length := by
  unfold ldK
  exact (List.takeWhile_sublist letB).length_le
theorem ldK_all (l : List UInt8) : (l.take (ldK l)).all letB = true := by
  unfold ldK
  have : l.take (l.takeWhile letB).length = l.takeWhile letB := by
    have h := List.takeWhile_append_dropWhile (p := letB) (l := l)
    conv => lhs; rhs; rw [← h]
    rw [List.take_left']
    rfl
  rw [this]
  exact List.all_takeWhile
def sfR (l : List UInt8) : List UInt8 := l.drop (ldK l)
def sfOk (l : List UInt8) : Bool := numB (sfR l) && inB (ldK l) 1 3 && inB (val (sfR l)) 1 9999
def sfS (l : List UInt8) : List UInt8 := if sfOk l = true then l.take (ldK l) else []
def sfI (l : List UInt8) : Int := if sfOk l = true then (val (sfR l) : Int) else 0
theorem sfOk_iff {l : List UInt8} : sfOk l = true ↔ numB (sfR l) = true ∧ inB (ldK l) 1 3 = true ∧ inB (val (sfR l)) 1 9999 = true := by
  unfold sfOk; rw [Bool.and_eq_true, Bool.and_eq_true, and_assoc]
theorem digit_neg {l : List UInt8} (h : l.all digB = true) : negB l = false := by
  cases l with
  | nil => rfl
  | cons c t =>
    simp only [List.all_cons, Bool.and_eq_true] at h
    have := (digB_iff c).1 h.1
    unfold negB
    rw [List.head?_cons]
    apply beq_eq_false_iff_ne.2
    intro e; injection e with e
    rw [e] at this
    have h45 : (45 : UInt8).toNat = 45 := rfl
    omega
theorem numB_body {l : List UInt8} (h : negB l = false) : body l = l := by unfold body; rw [if_neg (by rw [h]; simp)]
theorem sg_pos {l : List UInt8} (h : negB l = false) : sg l = val l := by unfold sg; rw [if_neg (by rw [h]; simp), numB_body h]
theorem sf_to {l : List UInt8} (h : sfOk l = true) : nameB l = true ∧ okP (sfR l) = true ∧ sg (sfR l) = val (sfR l) ∧ txt (sg (sfR l)) = sfR l := by
  obtain ⟨h1, h2, h3⟩ := sfOk_iff.1 h
  obtain ⟨a1, a2⟩ := inB_iff.1 h2
  obtain ⟨b1, b2⟩ := inB_iff.1 h3
  have hd := ((numB_iff _).1 h1).2.2.1
  have hl := ((numB_iff _).1 h1).1
  have hn := digit_neg hd
  have hok : okP (sfR l) = true := by
    unfold okP
    rw [numB_body hn, h1, hn, decide_eq_true (by omega)]; simp
  have hs := sg_pos hn
  refine ⟨?_, hok, hs, (txt_sg hok).1⟩
  have hlen : (sfR l).length ≤ 4 := by
    rw [← dec_numB h1]
    exact dec_len 4 _ (by omega) (by omega)
  have hle := ldK_le l
  have hsr : (sfR l).length = l.length - ldK l := by unfold sfR; rw [List.length_drop]
  refine (nameB_iff l).2 ⟨by omega, by omega, fun c hc => ?_⟩
  rw [← List.take_append_drop (ldK l) l, List.mem_append] at hc
  rcases hc with hc | hc
  · exact .inl (List.all_eq_true.1 (ldK_all l) c hc)
  · exact .inr (List.all_eq_true.1 hd c hc)
theorem sf_of {l : List UInt8} (h1 : inB (ldK l) 1 3 = true) (h2 : okP (sfR l) = true) (h3 : inB (sg (sfR l)) 1 9999 = true) : sfOk l = true := by
  obtain ⟨b1, b2⟩ := inB_iff.1 h3
  have hn : negB (sfR l) = false := by
    cases hc : negB (sfR l) with
    | false => rfl
    | true =>
      unfold sg at b1
      rw [hc, if_pos rfl] at b1
      omega
  have hs := sg_pos hn
  rw [hs] at h3
  refine sfOk_iff.2 ⟨?_, h1, h3⟩
  unfold okP at h2
  rw [numB_body hn] at h2
  simp only [Bool.and_eq_true] at h2
  exact h2.1.1
/-- the nearest name: index, distance, whether several -/
def nnSt (bits : List UInt8) (x : Nat × Nat × Bool) (i : Nat) (s : List UInt8) : Nat × Nat × Bool :=
  if onesL (xorL (nbL s) bits) < x.2.1 then (i, onesL (xorL (nbL s) bits), false) else if onesL (xorL (nbL s) bits) = x.2.1 then (x.1, x.2.1, true) else x
def nnTo (l : List (List UInt8)) (bits : List UInt8) : Nat → Nat × Nat × Bool
  | 0 => (0, 49, false)
  | k + 1 => nnSt bits (nnTo l bits k) k (l.getD k [])
def nnOk0 (l : List (List UInt8)) (bits : List UInt8) : Bool := inB l.length 1 20 && isBits bits && decide (bits.length = 48)
def nnOk (l : List (List UInt8)) (bits : List UInt8) : Bool := nnOk0 l bits && l.all nameB && !(nnTo l bits l.length).2.2
def nnI (l : List (List UInt8)) (bits : List UInt8) : Int := if nnOk l bits = true then ((nnTo l bits l.length).1 : Int) else 0
def nnD (l : List (List UInt8)) (bits : List UInt8) : Int := if nnOk l bits = true then ((nnTo l bits l.length).2.1 : Int) else 0
theorem nnTo_bd (l : List (List UInt8)) {bits : List UInt8} (hb : bits.length = 48) (k : Nat) (hk : 0 < k) : (nnTo l bits k).1 < k ∧ (nnTo l bits k).2.1 ≤ 48 := by
  induction k with
  | zero => omega
  | succ k ih =>
    have hn : onesL (xorL (nbL (l.getD k [])) bits) ≤ 48 := by
      have h1 := onesL_le (xorL (nbL (l.getD k [])) bits)
      rw [xorL_len (by rw [nbL_len, hb]), nbL_len] at h1
      exact h1
    rw [nnTo]
    unfold nnSt
    split
    · exact ⟨by show k < k + 1; omega, hn⟩
    · rename_i hge
      rcases Nat.eq_zero_or_pos k with h0 | h0
      · subst h0
        have : (nnTo l bits 0).2.1 = 49 := rfl
        omega
      · have := ih h0
        split
        · exact ⟨by show (nnTo l bits k).1 < k + 1; omega, this.2⟩
        · exact ⟨by omega, this.2⟩
/-- the word of a kind of frames -/
def kW : Nat → List UInt8
  | 1 => [110, 97, 109, 101]
  | 2 => [112, 111, 115, 105, 116, 105, 111, 110]
  | 3 => [104, 101, 105, 103, 104, 116]
  | 4 => [115, 112, 101, 101, 100]
  | _ => []
def kIdx (x : List UInt8) : Nat := if x = kW 1 then 1 else if x = kW 2 then 2 else if x = kW 3 then 3 else if x = kW 4 then 4 else 0
theorem kIdx_lt (x : List UInt8) : kIdx x ≤ 4 := by unfold kIdx; repeat (first | omega | split)
theorem kIdx_kW {x : List UInt8} (h : kIdx x ≠ 0) : kW (kIdx x) = x := by
  unfold kIdx at h ⊢
  repeat' split
  all_goals simp_all
theorem kIdx_eq {k : Nat} (h1 : 1 ≤ k) (h4 : k ≤ 4) : kIdx (kW k) = k := by
  have : k = 1 ∨ k = 2 ∨ k = 3 ∨ k = 4 := by omega
  rcases this with rfl | rfl | rfl | rfl <;> decide
theorem kIdx_first {x : List UInt8} {k : Nat} (h1 : 1 ≤ k) (h4 : k ≤ 4) (h : x = kW k) : kIdx x = k := by rw [h, kIdx_eq h1 h4]
theorem kW_len (k : Nat) : (kW k).length ≤ 8 := by
  unfold kW; split <;> simp
def frB (a b c : Int) : Bool := inB a 1 4 && inB b 1 65535 && inB c 0 16777215
theorem frB_iff {a b c : Int} : frB a b c = true ↔ (1 ≤ a ∧ a ≤ 4) ∧ (1 ≤ b ∧ b ≤ 65535) ∧ (0 ≤ c ∧ c ≤ 16777215) := by
  unfold frB; rw [Bool.and_eq_true, Bool.and_eq_true, inB_iff, inB_iff, inB_iff, and_assoc]
/-- the text of a frame -/
def ftR (a b c : Nat) : List UInt8 := (((kW a ++ [32]) ++ hexL (bitsL b 16)) ++ [32]) ++ hexL (bitsL c 24)
def ftL (a b c : Int) : List UInt8 := if frB a b c = true then ftR a.toNat b.toNat c.toNat else []
theorem hex16 (b : Nat) : (hexL (bitsL b 16)).length = 4 := by rw [hexL_len, bitsL_len]
theorem hex24 (c : Nat) : (hexL (bitsL c 24)).length = 6 := by rw [hexL_len, bitsL_len]
/-- the parts of a text of a frame -/
def pfW (l : List UInt8) (i : Nat) : List UInt8 := (spl 32 l).getD i []
def pfN (l : List UInt8) (i : Nat) : Nat := numL (unhexL (pfW l i))
def pfOk (l : List UInt8) : Bool := decide ((spl 32 l).length = 3) && (decide ((pfW l 1).length = 4) && decide ((pfW l 2).length = 6)) && (unhexOk (pfW l 1) && unhexOk (pfW l 2)) && frB (kIdx (pfW l 0)) (pfN l 1) (pfN l 2)
def pfA (l : List UInt8) : Int := if pfOk l = true then (kIdx (pfW l 0) : Int) else 0
def pfB (l : List UInt8) : Int := if pfOk l = true then (pfN l 1 : Int) else 0
def pfC (l : List UInt8) : Int := if pfOk l = true then (pfN l 2 : Int) else 0
theorem pfOk_iff {l : List UInt8} : pfOk l = true ↔ (spl 32 l).length = 3 ∧ (pfW l 1).length = 4 ∧ (pfW l 2).length = 6 ∧ unhexOk (pfW l 1) = true ∧ unhexOk (pfW l 2) = true ∧ frB (kIdx (pfW l 0)) (pfN l 1) (pfN l 2) = true := by
  unfold pfOk; simp only [Bool.and_eq_true, decide_eq_true_eq, and_assoc]
theorem pf_three {l : List UInt8} (h : (spl 32 l).length = 3) : l = (((pfW l 0 ++ [32]) ++ pfW l 1) ++ [32]) ++ pfW l 2 := by
  have hj := spl_jn 32 l
  unfold pfW
  obtain ⟨a, b, c, he⟩ : ∃ a b c, spl 32 l = [a, b, c] := by
    match spl 32 l, h with
    | [a, b, c], _ => exact ⟨a, b, c, rfl⟩
  rw [he] at hj ⊢
  rw [← hj]
  simp [jn]
theorem unhex_all {l : List UInt8} (h : unhexOk l = true) : l.all hexB = true := by unfold unhexOk at h; rw [Bool.and_eq_true] at h; exact h.2
theorem hex_back {l : List UInt8} (h : unhexOk l = true) : hexL (bitsL (numL (unhexL l)) (4 * l.length)) = l := by
  have := bits_numL (unhexL_bits l)
  rw [unhexL_len] at this
  rw [this, hex_unhex (unhex_all h)]
theorem pf_text {l : List UInt8} (h : pfOk l = true) : ftR (kIdx (pfW l 0)) (pfN l 1) (pfN l 2) = l := by
  obtain ⟨h1, h2, h3, h4, h5, h6⟩ := pfOk_iff.1 h
  have hk : kIdx (pfW l 0) ≠ 0 := by
    have := (frB_iff.1 h6).1.1; omega
  have e1 := hex_back h4
  have e2 := hex_back h5
  rw [h2] at e1
  rw [h3] at e2
  unfold ftR pfN
  rw [kIdx_kW hk, e1, e2]
  exact (pf_three h1).symm
theorem pf_len {l : List UInt8} (h : pfOk l = true) : l.length ≤ 30 := by
  rw [← pf_text h]
  unfold ftR
  have := kW_len (kIdx (pfW l 0))
  simp only [List.length_append, hex16, hex24, List.length_singleton]
  omega
theorem pf_lt {l : List UInt8} (i : Nat) (h : (pfW l i).length ≤ 6) : pfN l i < 1073741824 := numL_lt30 (by rw [unhexL_len]; omega)

section
variable {l x0 x1 x2 : List UInt8} (hw : spl 32 l = [x0, x1, x2])
include hw
theorem pfW_0 : pfW l 0 = x0 := by unfold pfW; rw [hw]; rfl
theorem pfW_1 : pfW l 1 = x1 := by unfold pfW; rw [hw]; rfl
theorem pfW_2 : pfW l 2 = x2 := by unfold pfW; rw [hw]; rfl
theorem pf_iff3 : pfOk l = true ↔ x1.length = 4 ∧ x2.length = 6 ∧ unhexOk x1 = true ∧ unhexOk x2 = true ∧ frB (kIdx x0) (numL (unhexL x1)) (numL (unhexL x2)) = true := by
  rw [pfOk_iff]
  unfold pfN
  rw [pfW_0 hw, pfW_1 hw, pfW_2 hw, hw]
  simp
theorem pf_bad3 (h : x1.length ≠ 4 ∨ x2.length ≠ 6 ∨ unhexOk x1 = false ∨ unhexOk x2 = false) : pfOk l = false := by
  rw [Bool.eq_false_iff]; intro e
  obtain ⟨a, b, c, d, _⟩ := (pf_iff3 hw).1 e
  rcases h with h | h | h | h
  · exact h a
  · exact h b
  · rw [c] at h; cases h
  · rw [d] at h; cases h
theorem pf_found (h1 : x1.length = 4) (h2 : x2.length = 6) (u1 : unhexOk x1 = true) (u2 : unhexOk x2 = true) {k : Nat} (hk : kW k = x0) (hf : frB k (numL (unhexL x1)) (numL (unhexL x2)) = true) :
    pfOk l = true ∧ pfA l = k ∧ pfB l = numL (unhexL x1) ∧ pfC l = numL (unhexL x2) := by
  have hr := (frB_iff.1 hf).1
  have hi : kIdx x0 = k := kIdx_first (by omega) (by omega) hk.symm
  have ho : pfOk l = true := (pf_iff3 hw).2 ⟨h1, h2, u1, u2, by rw [hi]; exact hf⟩
  unfold pfA pfB pfC pfN
  rw [ho, if_pos rfl, if_pos rfl, if_pos rfl, pfW_0 hw, pfW_1 hw, pfW_2 hw, hi]
  exact ⟨rfl, rfl, rfl, rfl⟩
theorem pf_none (hn : ∀ k, k < 5 → kW k = x0 → frB k (numL (unhexL x1)) (numL (unhexL x2)) = false) : pfOk l = false := by
  rw [Bool.eq_false_iff]; intro e
  obtain ⟨_, _, _, _, hf⟩ := (pf_iff3 hw).1 e
  have hr := (frB_iff.1 hf).1
  have := hn (kIdx x0) (by have := kIdx_lt x0; omega) (kIdx_kW (by omega))
  rw [hf] at this; cases this
end
theorem pf_no {l : List UInt8} (h : pfOk l = false) : pfA l = 0 ∧ pfB l = 0 ∧ pfC l = 0 := by unfold pfA pfB pfC; rw [h]; exact ⟨rfl, rfl, rfl⟩
theorem unhex_num {x : List UInt8} (h : x.length ≤ 6) : numL (unhexL x) < 1073741824 := numL_lt30 (by rw [unhexL_len]; omega)
theorem three_list {α : Type} {l : List α} (h : l.length = 3) : ∃ a b c, l = [a, b, c] := by
  match l, h with
  | [a, b, c], _ => exact ⟨a, b, c, rfl⟩

end Go.Proofs.Ytfbanjmooknafaa.P
