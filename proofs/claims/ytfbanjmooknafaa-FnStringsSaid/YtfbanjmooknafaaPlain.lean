/-
  Plain facts on lists of bytes (decimal texts, parts of a text, checksums, bit strings, parity by polynomial division, hex texts, names, heights): no program is in sight here.
-/
namespace Go.Proofs.Ytfbanjmooknafaa.P
set_option linter.unusedSimpArgs false
set_option linter.unusedVariables false
/-- the digit of a number under 10 -/
def dg (n : Nat) : UInt8 := UInt8.ofNat (48 + n)
theorem dg_nat (m : Nat) (h : m < 10) : (dg m).toNat = 48 + m := by
  unfold dg; rw [UInt8.toNat_ofNat']; omega
theorem dg_of (c : UInt8) (h : 48 ≤ c.toNat) : dg (c.toNat - 48) = c := by
  unfold dg
  have : 48 + (c.toNat - 48) = c.toNat := by omega
  rw [this]; simp
theorem snocInd {α : Type} {P : List α → Prop} (h0 : P []) (h1 : ∀ l c, P l → P (l ++ [c])) (l : List α) : P l := by
  have : ∀ r : List α, P r.reverse := by
    intro r
    induction r with
    | nil => exact h0
    | cons a t ih => rw [List.reverse_cons]; exact h1 _ _ ih
  have h := this l.reverse
  rwa [List.reverse_reverse] at h
def dec (n : Nat) : List UInt8 := if n < 10 then [dg n] else dec (n / 10) ++ [dg (n % 10)]
termination_by n
decreasing_by omega

def digB (c : UInt8) : Bool := decide (48 ≤ c.toNat) && decide (c.toNat ≤ 57)
def val (l : List UInt8) : Nat := l.foldl (fun n c => 10 * n + (c.toNat - 48)) 0

theorem dec_small {n : Nat} (h : n < 10) : dec n = [dg n] := by
  rw [dec]; simp [h]
theorem dec_big {n : Nat} (h : 10 ≤ n) : dec n = dec (n / 10) ++ [dg (n % 10)] := by
  rw [dec]; simp [Nat.not_lt.2 h]
theorem digB_of (m : Nat) (h : m < 10) : digB (dg m) = true := by
  unfold digB; rw [dg_nat _ (by omega)]; simp; omega
theorem dec_ind {P : Nat → Prop} (h1 : ∀ n, n < 10 → P n) (h2 : ∀ n, 10 ≤ n → P (n / 10) → P n) (n : Nat) : P n := by
  induction n using Nat.strongRecOn with
  | _ n ih =>
    rcases Nat.lt_or_ge n 10 with h | h
    · exact h1 n h
    · exact h2 n h (ih _ (by omega))
theorem dec_ne (n : Nat) : dec n ≠ [] := by
  rcases Nat.lt_or_ge n 10 with h | h
  · rw [dec_small h]; simp
  · rw [dec_big h]; simp
theorem dec_all (n : Nat) : (dec n).all digB = true := by
  induction n using dec_ind with
  | h1 n h => rw [dec_small h]; simp [digB_of n h]
  | h2 n h ih => rw [dec_big h]; rw [List.all_append, ih]; simp [digB_of (n % 10) (by omega)]
theorem dec_len (k n : Nat) (hk : 1 ≤ k) (h : n < 10 ^ k) : (dec n).length ≤ k := by
  induction k generalizing n with
  | zero => omega
  | succ k ih =>
    rcases Nat.lt_or_ge n 10 with h1 | h1
    · rw [dec_small h1]; simp
    · rw [dec_big h1]
      rcases Nat.eq_zero_or_pos k with h0 | h0
      · subst h0; simp at h; omega
      · have : n / 10 < 10 ^ k := by rw [Nat.pow_succ] at h; omega
        have := ih (n / 10) h0 this
        simp; omega
theorem val_snoc (l : List UInt8) (c : UInt8) : val (l ++ [c]) = 10 * val l + (c.toNat - 48) := by simp [val, List.foldl_append]
theorem val_dec (n : Nat) : val (dec n) = n := by
  induction n using dec_ind with
  | h1 n h => rw [dec_small h]; simp only [val, List.foldl]; rw [dg_nat _ (by omega)]; omega
  | h2 n h ih => rw [dec_big h, val_snoc, ih, dg_nat _ (by omega)]; omega
theorem dec_head (n : Nat) (h : 1 ≤ n) : ∀ c, (dec n).head? = some c → c.toNat ≠ 48 := by
  induction n using dec_ind with
  | h1 n h' => rw [dec_small h']; intro c hc; simp at hc; subst hc; rw [dg_nat _ (by omega)]; omega
  | h2 n h' ih =>
    rw [dec_big h']; intro c hc
    have : (dec (n / 10) ++ [dg (n % 10)]).head? = (dec (n / 10)).head? := by
      cases hd : dec (n / 10) with
      | nil => exact absurd hd (dec_ne _)
      | cons a t => rfl
    rw [this] at hc
    exact ih (by omega) c hc
theorem digB_iff (c : UInt8) : digB c = true ↔ 48 ≤ c.toNat ∧ c.toNat ≤ 57 := by simp [digB]
theorem val_pos (l : List UInt8) : l.all digB = true → l ≠ [] → (∀ c, l.head? = some c → c.toNat ≠ 48) → 1 ≤ val l := by
  induction l using snocInd with
  | h0 => intro _ h; exact absurd rfl h
  | h1 l c ih =>
    intro ha _ hh
    rw [List.all_append] at ha
    simp only [Bool.and_eq_true, List.all_cons, List.all_nil] at ha
    have hc := (digB_iff c).1 ha.2.1
    rw [val_snoc]
    cases l with
    | nil => have := hh c rfl; simp [val]; omega
    | cons a t =>
      have := ih ha.1 (by simp) (fun d hd => hh d (by simpa using hd))
      omega
theorem dec_val (l : List UInt8) : l.all digB = true → l ≠ [] → (l.length = 1 ∨ ∀ c, l.head? = some c → c.toNat ≠ 48) → dec (val l) = l := by
  induction l using snocInd with
  | h0 => intro _ h; exact absurd rfl h
  | h1 l c ih =>
    intro ha _ hh
    rw [List.all_append] at ha
    simp only [Bool.and_eq_true, List.all_cons, List.all_nil] at ha
    have hc := (digB_iff c).1 ha.2.1
    rw [val_snoc]
    cases l with
    | nil =>
      have e : 10 * val [] + (c.toNat - 48) = c.toNat - 48 := by simp [val]
      rw [e, dec_small (by omega), dg_of c (by omega)]; rfl
    | cons a t =>
      have hh2 : ∀ d, (a :: t).head? = some d → d.toNat ≠ 48 := by
        rcases hh with h | h
        · simp at h
        · intro d hd; exact h d (by simpa using hd)
      have hp := val_pos (a :: t) ha.1 (by simp) hh2
      have hi := ih ha.1 (by simp) (.inr hh2)
      rw [dec_big (by omega)]
      have e1 : (10 * val (a :: t) + (c.toNat - 48)) / 10 = val (a :: t) := by omega
      have e2 : (10 * val (a :: t) + (c.toNat - 48)) % 10 = c.toNat - 48 := by omega
      rw [e1, e2, hi, dg_of c (by omega)]
theorem val_lt (k : Nat) (l : List UInt8) : l.all digB = true → l.length ≤ k → val l < 10 ^ k := by
  induction l using snocInd generalizing k with
  | h0 => intro _ _; exact Nat.pow_pos (by omega)
  | h1 l c ih =>
    intro ha hl
    rw [List.all_append] at ha
    simp only [Bool.and_eq_true, List.all_cons, List.all_nil] at ha
    have hc := (digB_iff c).1 ha.2.1
    simp at hl
    cases k with
    | zero => omega
    | succ k =>
      have := ih k ha.1 (by omega)
      rw [val_snoc, Nat.pow_succ]; omega
theorem dec_inj {a b : Nat} (h : dec a = dec b) : a = b := by rw [← val_dec a, ← val_dec b, h]

/-! ### texts of integers -/
def txt (n : Int) : List UInt8 := if n < 0 then 45 :: dec (-n).toNat else dec n.toNat
def numB (l : List UInt8) : Bool := decide (1 ≤ l.length) && decide (l.length ≤ 9) && l.all digB && (decide (l.length = 1) || !(l.head? == some 48))
def negB (l : List UInt8) : Bool := l.head? == some 45
def body (l : List UInt8) : List UInt8 := if negB l = true then l.tail else l
def sg (l : List UInt8) : Int := if negB l = true then -(val (body l) : Int) else (val (body l) : Int)
def okP (l : List UInt8) : Bool := numB (body l) && decide (val (body l) ≤ 999999) && !(decide (val (body l) = 0) && negB l)

theorem numB_iff (l : List UInt8) : numB l = true ↔ 1 ≤ l.length ∧ l.length ≤ 9 ∧ l.all digB = true ∧ (l.length = 1 ∨ l.head? ≠ some 48) := by
  unfold numB; simp [and_assoc]
theorem head48 {l : List UInt8} (h : l.head? ≠ some 48) : ∀ c, l.head? = some c → c.toNat ≠ 48 := by
  intro c hc e
  apply h; rw [hc]; congr 1
  exact UInt8.toNat_inj.1 e
theorem dec_numB {l : List UInt8} (h : numB l = true) : dec (val l) = l := by
  obtain ⟨h1, h2, h3, h4⟩ := (numB_iff l).1 h
  refine dec_val l h3 (by intro e; subst e; simp at h1) ?_
  rcases h4 with h4 | h4
  · exact .inl h4
  · exact .inr (head48 h4)
theorem numB_dec {n : Nat} (h : n < 1000000000) : numB (dec n) = true := by
  refine (numB_iff _).2 ⟨?_, ?_, dec_all n, ?_⟩
  · have := dec_ne n; cases hd : dec n with
    | nil => exact absurd hd this
    | cons a t => simp
  · exact dec_len 9 n (by omega) (by simpa using h)
  · rcases Nat.lt_or_ge n 10 with h1 | h1
    · left; rw [dec_small h1]; rfl
    · right; intro e; exact dec_head n (by omega) 48 e rfl
theorem dec_no45 (n : Nat) : negB (dec n) = false := by
  unfold negB
  cases hd : dec n with
  | nil => rfl
  | cons a t =>
    have := dec_all n; rw [hd] at this
    simp only [List.all_cons, Bool.and_eq_true] at this
    have h := (digB_iff a).1 this.1
    simp only [List.head?_cons]
    apply beq_eq_false_iff_ne.2
    intro e; injection e with e; subst e; simp at h
theorem okP_txt {n : Int} (h1 : -999999 ≤ n) (h2 : n ≤ 999999) : okP (txt n) = true ∧ sg (txt n) = n := by
  unfold txt
  by_cases h : n < 0
  · rw [if_pos h]
    have e1 : negB (45 :: dec (-n).toNat) = true := rfl
    have e2 : body (45 :: dec (-n).toNat) = dec (-n).toNat := by unfold body; rw [e1]; rfl
    constructor
    · unfold okP; rw [e2, val_dec, numB_dec (by omega)]; simp; omega
    · unfold sg; rw [e2, e1, val_dec]; simp; omega
  · rw [if_neg h]
    have e1 := dec_no45 n.toNat
    have e2 : body (dec n.toNat) = dec n.toNat := by unfold body; rw [e1]; rfl
    constructor
    · unfold okP; rw [e2, val_dec, numB_dec (by omega), e1]; simp; omega
    · unfold sg; rw [e2, e1, val_dec]; simp; omega
theorem txt_sg {l : List UInt8} (h : okP l = true) : txt (sg l) = l ∧ -999999 ≤ sg l ∧ sg l ≤ 999999 := by
  unfold okP at h
  simp only [Bool.and_eq_true, Bool.not_eq_true', decide_eq_true_eq] at h
  obtain ⟨⟨hn, hv⟩, hz⟩ := h
  have hd := dec_numB hn
  unfold sg txt
  cases hb : negB l with
  | true =>
    rw [hb] at hz
    simp at hz
    have e : body l = l.tail := by unfold body; rw [hb]; rfl
    simp only [if_true]
    refine ⟨?_, by omega, by omega⟩
    rw [if_pos (by omega)]
    have : (-(-(val (body l) : Int))).toNat = val (body l) := by omega
    rw [this, hd, e]
    unfold negB at hb
    cases l with
    | nil => simp at hb
    | cons a t => simp at hb; subst hb; rfl
  | false =>
    have e : body l = l := by unfold body; rw [hb]; rfl
    simp only [Bool.false_eq_true, if_false]
    refine ⟨?_, by omega, by omega⟩
    rw [if_neg (by omega), Int.toNat_natCast, hd, e]
theorem txt_inj {a b : Int} (h1 : -999999 ≤ a) (h2 : a ≤ 999999) (h3 : -999999 ≤ b) (h4 : b ≤ 999999) (h : txt a = txt b) : a = b := by
  rw [← (okP_txt h1 h2).2, ← (okP_txt h3 h4).2, h]
theorem txt_len {n : Int} (h1 : -999999 ≤ n) (h2 : n ≤ 999999) : (txt n).length ≤ 7 := by
  unfold txt
  by_cases h : n < 0
  · rw [if_pos h]
    have := dec_len 6 (-n).toNat (by omega) (by simp; omega)
    simp; omega
  · rw [if_neg h]
    have := dec_len 6 n.toNat (by omega) (by simp; omega)
    omega
/-- what the reference reads -/
def rbody (l : List UInt8) : List UInt8 := if 1 < l.length ∧ negB l = true then l.tail else l
def rsg (l : List UInt8) : Int := if (rbody l).length < l.length then -(val (rbody l) : Int) else (val (rbody l) : Int)
def rOk (l : List UInt8) : Prop := 1 ≤ (rbody l).length ∧ (rbody l).length ≤ 6 ∧ (rbody l).all digB = true ∧ txt (rsg l) = l
theorem rOk_okP {l : List UInt8} (h : rOk l) : okP l = true ∧ sg l = rsg l := by
  obtain ⟨h1, h2, h3, h4⟩ := h
  have hv : val (rbody l) < 10 ^ 6 := val_lt 6 _ h3 h2
  simp at hv
  have hb : -999999 ≤ rsg l ∧ rsg l ≤ 999999 := by unfold rsg; split <;> omega
  have := okP_txt hb.1 hb.2
  rw [h4] at this
  exact this
theorem okP_rOk {l : List UInt8} (h : okP l = true) : rOk l := by
  obtain ⟨h1, h2, h3⟩ := txt_sg h
  have hr : rbody l = body l := by
    unfold rbody body
    cases hb : negB l with
    | false => simp
    | true =>
      have : 1 < l.length := by
        unfold okP at h
        simp only [Bool.and_eq_true] at h
        have := (numB_iff _).1 h.1.1
        unfold body at this; rw [hb] at this
        simp at this; omega
      simp [this]
  have hs : rsg l = sg l := by
    unfold rsg sg; rw [hr]
    cases hb : negB l with
    | true =>
      have : (body l).length < l.length := by
        unfold body; rw [hb]
        cases l with
        | nil => simp [negB] at hb
        | cons a t => simp
      simp [this]
    | false =>
      have : body l = l := by unfold body; rw [hb]; rfl
      simp [this]
  unfold rOk; rw [hr, hs]
  unfold okP at h
  simp only [Bool.and_eq_true, decide_eq_true_eq] at h
  obtain ⟨⟨hn, hv⟩, hz⟩ := h
  have hn' := (numB_iff _).1 hn
  refine ⟨hn'.1, ?_, hn'.2.2.1, h1⟩
  have := dec_len 6 (val (body l)) (by omega) (by simp; omega)
  rwa [dec_numB hn] at this

/-! ### parts of a text -/
def spS (b : UInt8) (x : List (List UInt8) × List UInt8) (c : UInt8) : List (List UInt8) × List UInt8 := if c = b then (x.1 ++ [x.2], []) else (x.1, x.2 ++ [c])
def spF (b : UInt8) (l : List UInt8) : List (List UInt8) × List UInt8 := l.foldl (spS b) ([], [])
def spl (b : UInt8) (l : List UInt8) : List (List UInt8) := (spF b l).1 ++ [(spF b l).2]
def jn (sep : List UInt8) : List (List UInt8) → List UInt8
  | [] => []
  | p :: r => p ++ (r.map (sep ++ ·)).flatten
theorem spF_snoc (b : UInt8) (l : List UInt8) (c : UInt8) : spF b (l ++ [c]) = spS b (spF b l) c := by simp [spF, List.foldl_append]
theorem spF_snoc_eq (b : UInt8) (l : List UInt8) : spF b (l ++ [b]) = ((spF b l).1 ++ [(spF b l).2], []) := by rw [spF_snoc]; simp [spS]
theorem spF_snoc_ne {b c : UInt8} (l : List UInt8) (h : c ≠ b) : spF b (l ++ [c]) = ((spF b l).1, (spF b l).2 ++ [c]) := by rw [spF_snoc]; simp [spS, h]
theorem jn_snoc {sep x : List UInt8} {ps : List (List UInt8)} (h : ps ≠ []) : jn sep (ps ++ [x]) = jn sep ps ++ sep ++ x := by
  cases ps with
  | nil => exact absurd rfl h
  | cons p r => simp [jn]
theorem jn_one (sep x : List UInt8) : jn sep [x] = x := by simp [jn]
theorem jn_snoc_app {sep x y : List UInt8} (ps : List (List UInt8)) : jn sep (ps ++ [x ++ y]) = jn sep (ps ++ [x]) ++ y := by
  cases ps with
  | nil => simp [jn]
  | cons p r => simp [jn]
theorem spl_jn (b : UInt8) (l : List UInt8) : jn [b] (spl b l) = l := by
  unfold spl
  induction l using snocInd with
  | h0 => rfl
  | h1 l c ih =>
    by_cases h : c = b
    · subst h
      rw [spF_snoc_eq, jn_snoc (by simp), ih]; simp
    · rw [spF_snoc_ne l h, jn_snoc_app, ih]
theorem spF_free (b : UInt8) (l : List UInt8) : (∀ p ∈ (spF b l).1, b ∉ p) ∧ b ∉ (spF b l).2 := by
  induction l using snocInd with
  | h0 => simp [spF]
  | h1 l c ih =>
    by_cases h : c = b
    · subst h
      rw [spF_snoc_eq]
      refine ⟨fun p hp => ?_, by simp⟩
      simp at hp
      rcases hp with hp | rfl
      · exact ih.1 p hp
      · exact ih.2
    · rw [spF_snoc_ne l h]
      refine ⟨ih.1, ?_⟩
      simp
      exact ⟨ih.2, fun e => h e.symm⟩
theorem spl_free {b : UInt8} {l p : List UInt8} (h : p ∈ spl b l) : b ∉ p := by
  unfold spl at h; simp at h
  rcases h with h | rfl
  · exact (spF_free b l).1 p h
  · exact (spF_free b l).2
theorem spF_len (b : UInt8) (l : List UInt8) : (spF b l).1.length = l.count b := by
  induction l using snocInd with
  | h0 => simp [spF]
  | h1 l c ih =>
    by_cases h : c = b
    · subst h; rw [spF_snoc_eq]; simp [ih]
    · rw [spF_snoc_ne l h]; simp [ih, List.count_append, h]
theorem spl_len (b : UInt8) (l : List UInt8) : (spl b l).length = l.count b + 1 := by simp [spl, spF_len]
theorem spl_long (b : UInt8) (l : List UInt8) : decide (1 < (spl b l).length) = l.contains b := by
  rw [spl_len]
  rw [Bool.eq_iff_iff]
  simp [List.count_pos_iff]
/-- a text up to a byte -/
def hd (b : UInt8) (l : List UInt8) : List UInt8 := l.takeWhile (· != b)
theorem hd_self {b : UInt8} {l : List UInt8} (h : b ∉ l) : hd b l = l := by
  unfold hd
  induction l with
  | nil => rfl
  | cons a t ih =>
    simp only [List.mem_cons, not_or] at h
    have h1 : (a != b) = true := by simpa using fun e => h.1 e.symm
    rw [List.takeWhile_cons, if_pos h1, ih h.2]
theorem hd_more {b : UInt8} {l : List UInt8} (h : b ∈ l) (r : List UInt8) : hd b (l ++ r) = hd b l := by
  unfold hd
  induction l with
  | nil => simp at h
  | cons a t ih =>
    rw [List.cons_append, List.takeWhile_cons, List.takeWhile_cons]
    by_cases h1 : (a != b) = true
    · rw [if_pos h1, if_pos h1, ih]
      have : a ≠ b := by simpa using h1
      simp only [List.mem_cons] at h
      rcases h with h | h
      · exact absurd h.symm this
      · exact h
    · rw [if_neg h1, if_neg h1]
theorem hd_stop {b : UInt8} {x : List UInt8} (h : b ∉ x) (y : List UInt8) : hd b (x ++ b :: y) = x := by
  have h1 : hd b (x ++ [b]) = x := by
    unfold hd
    induction x with
    | nil => simp
    | cons a t ih =>
      simp only [List.mem_cons, not_or] at h
      have h1 : (a != b) = true := by simpa using fun e => h.1 e.symm
      rw [List.cons_append, List.takeWhile_cons, if_pos h1, ih h.2]
  have h2 : x ++ b :: y = (x ++ [b]) ++ y := by simp
  rw [h2, hd_more (by simp), h1]
theorem spF_nil {b : UInt8} {l : List UInt8} (h : b ∉ l) : spF b l = ([], l) := by
  induction l using snocInd with
  | h0 => rfl
  | h1 l c ih =>
    simp only [List.mem_append, List.mem_singleton, not_or] at h
    rw [spF_snoc_ne l (fun e => h.2 e.symm), ih h.1]
theorem spl_head (b : UInt8) (l : List UInt8) : (spl b l).head? = some (hd b l) := by
  unfold spl
  induction l using snocInd with
  | h0 => rfl
  | h1 l c ih =>
    by_cases hm : b ∈ l
    · have hp : (spF b l).1 ≠ [] := by
        intro e
        have := spF_len b l
        rw [e] at this
        have h2 := List.count_pos_iff.2 hm
        simp at this; omega
      rw [hd_more hm, ← ih]
      by_cases h : c = b
      · subst h
        rw [spF_snoc_eq]
        cases hq : (spF c l).1 with
        | nil => exact absurd hq hp
        | cons p r => simp
      · rw [spF_snoc_ne l h]
        cases hq : (spF b l).1 with
        | nil => exact absurd hq hp
        | cons p r => simp
    · by_cases h : c = b
      · subst h
        rw [spF_snoc_eq, spF_nil hm, hd_stop hm]; rfl
      · rw [spF_snoc_ne l h, spF_nil hm, hd_self]
        · rfl
        · simp only [List.mem_append, List.mem_singleton, not_or]; exact ⟨hm, fun e => h e.symm⟩
theorem hd_free (b : UInt8) (l : List UInt8) : b ∉ hd b l := by
  unfold hd
  induction l with
  | nil => simp
  | cons a t ih =>
    rw [List.takeWhile_cons]
    by_cases h1 : (a != b) = true
    · rw [if_pos h1]
      simp only [List.mem_cons, not_or]
      have : a ≠ b := by simpa using h1
      exact ⟨fun e => this e.symm, ih⟩
    · rw [if_neg h1]; simp
theorem hd_len (b : UInt8) (l : List UInt8) : (hd b l).length ≤ l.length := by
  unfold hd; exact (List.takeWhile_prefix _).length_le
theorem jn_length (b : UInt8) (ps : List (List UInt8)) : (jn [b] ps).length = (ps.map List.length).sum + (ps.length - 1) := by
  cases ps with
  | nil => rfl
  | cons p r =>
    simp only [jn, List.length_append, List.map_cons, List.sum_cons, List.length_cons, Nat.add_sub_cancel]
    induction r with
    | nil => simp
    | cons q r ih => simp at ih ⊢; omega

/-! ### checksums -/
def ck (l : List UInt8) : Nat := l.foldl (fun h c => (41 * h + c.toNat + 1) % 999979) 7
theorem ck_lt (l : List UInt8) : ck l < 999979 := by
  induction l using snocInd with
  | h0 => decide
  | h1 l c _ => simp only [ck, List.foldl_append, List.foldl]; exact Nat.mod_lt _ (by omega)
theorem ck_snoc (l : List UInt8) (c : UInt8) : ck (l ++ [c]) = (41 * ck l + c.toNat + 1) % 999979 := by simp [ck, List.foldl_append]
def slT (l : List UInt8) : List UInt8 := l ++ 35 :: dec (ck l)
def bitB (c : UInt8) : Bool := c == 48 || c == 49
/-- the byte of a bit -/
def bt (b : Nat) : UInt8 := if b = 1 then 49 else 48
def bv (c : UInt8) : Nat := if c = 49 then 1 else 0
def isBits (l : List UInt8) : Bool := decide (l.length ≤ 64) && l.all bitB
def bitsL (n : Nat) : Nat → List UInt8
  | 0 => []
  | w + 1 => bitsL (n / 2) w ++ [bt (n % 2)]
def numL (l : List UInt8) : Nat := l.foldl (fun n c => 2 * n + bv c) 0
def xorL (a b : List UInt8) : List UInt8 := List.zipWith (fun x y => if x = y then 48 else 49) a b
def onesL (l : List UInt8) : Nat := l.count 49
def flipL (l : List UInt8) (i : Nat) : List UInt8 := l.set i (if l[i]? = some 49 then 48 else 49)

theorem bitB_iff (c : UInt8) : bitB c = true ↔ c = 48 ∨ c = 49 := by simp [bitB]
theorem bt_bit (b : Nat) : bitB (bt b) = true := by unfold bt; split <;> rfl
theorem bv_bt {b : Nat} (h : b < 2) : bv (bt b) = b := by
  have : b = 0 ∨ b = 1 := by omega
  rcases this with rfl | rfl <;> rfl
theorem bt_bv {c : UInt8} (h : bitB c = true) : bt (bv c) = c := by
  rcases (bitB_iff c).1 h with rfl | rfl <;> rfl
theorem bv_lt (c : UInt8) : bv c < 2 := by unfold bv; split <;> omega
theorem bv_nat {c : UInt8} (h : bitB c = true) : c.toNat = 48 + bv c := by
  rcases (bitB_iff c).1 h with rfl | rfl <;> rfl
theorem bt_nat {b : Nat} (h : b < 2) : (bt b).toNat = 48 + b := by
  have : b = 0 ∨ b = 1 := by omega
  rcases this with rfl | rfl <;> rfl
theorem bitsL_len (n w : Nat) : (bitsL n w).length = w := by
  induction w generalizing n with
  | zero => rfl
  | succ w ih => simp [bitsL, ih]
theorem bitsL_bits (n w : Nat) : (bitsL n w).all bitB = true := by
  induction w generalizing n with
  | zero => rfl
  | succ w ih => simp only [bitsL, List.all_append, ih, List.all_cons, bt_bit, List.all_nil]; rfl
theorem numL_snoc (l : List UInt8) (c : UInt8) : numL (l ++ [c]) = 2 * numL l + bv c := by simp [numL, List.foldl_append]
theorem numL_bits {n w : Nat} (h : n < 2 ^ w) : numL (bitsL n w) = n := by
  induction w generalizing n with
  | zero => simp at h; subst h; rfl
  | succ w ih =>
    rw [Nat.pow_succ] at h
    rw [bitsL, numL_snoc, ih (by omega), bv_bt (by omega)]; omega
theorem bits_numL {l : List UInt8} (h : l.all bitB = true) : bitsL (numL l) l.length = l := by
  induction l using snocInd with
  | h0 => rfl
  | h1 l c ih =>
    simp only [List.all_append, Bool.and_eq_true, List.all_cons, List.all_nil] at h
    have := bv_lt c
    rw [numL_snoc, List.length_append, List.length_singleton, bitsL]
    have e1 : (2 * numL l + bv c) / 2 = numL l := by omega
    have e2 : (2 * numL l + bv c) % 2 = bv c := by omega
    rw [e1, e2, ih h.1, bt_bv h.2.1]
theorem numL_lt (l : List UInt8) : numL l < 2 ^ l.length := by
  induction l using snocInd with
  | h0 => decide
  | h1 l c ih =>
    have := bv_lt c
    rw [numL_snoc, List.length_append, List.length_singleton, Nat.pow_succ]; omega
theorem bitsL_inj {a b w : Nat} (ha : a < 2 ^ w) (hb : b < 2 ^ w) (h : bitsL a w = bitsL b w) : a = b := by
  rw [← numL_bits ha, ← numL_bits hb, h]
theorem numL_inj {a b : List UInt8} (ha : a.all bitB = true) (hb : b.all bitB = true) (hl : a.length = b.length) (h : numL a = numL b) : a = b := by
  rw [← bits_numL ha, ← bits_numL hb, h, hl]
theorem xorL_len {a b : List UInt8} (h : a.length = b.length) : (xorL a b).length = a.length := by simp [xorL, h]
theorem xorL_bits (a b : List UInt8) : (xorL a b).all bitB = true := by
  induction a generalizing b with
  | nil => rfl
  | cons x a ih =>
    cases b with
    | nil => rfl
    | cons y b => 
      simp only [xorL, List.zipWith_cons_cons, List.all_cons, Bool.and_eq_true]
      exact ⟨by split <;> rfl, ih b⟩
theorem two_xor {a b x y : Nat} (hx : x < 2) (hy : y < 2) : (2 * a + x) ^^^ (2 * b + y) = 2 * (a ^^^ b) + (x ^^^ y) := by
  have h2 : x ^^^ y < 2 := Nat.xor_lt_two_pow (n := 1) (by omega) (by omega)
  apply Nat.eq_of_testBit_eq
  intro i
  cases i with
  | zero =>
    simp only [Nat.testBit_zero, Nat.testBit_xor]
    have hx' : x = 0 ∨ x = 1 := by omega
    have hy' : y = 0 ∨ y = 1 := by omega
    rcases hx' with rfl | rfl <;> rcases hy' with rfl | rfl <;> simp <;> omega
  | succ i =>
    rw [Nat.testBit_xor]
    simp only [Nat.testBit_succ]
    have e1 : (2 * a + x) / 2 = a := by omega
    have e2 : (2 * b + y) / 2 = b := by omega
    have e3 : (2 * (a ^^^ b) + (x ^^^ y)) / 2 = a ^^^ b := by omega
    rw [e1, e2, e3, Nat.testBit_xor]
theorem numL_xor {a b : List UInt8} (ha : a.all bitB = true) (hb : b.all bitB = true) (h : a.length = b.length) : numL (xorL a b) = numL a ^^^ numL b := by
  induction a using snocInd generalizing b with
  | h0 => cases b with
    | nil => rfl
    | cons y b => simp at h
  | h1 a c ih =>
    cases b using snocInd with
    | h0 => simp at h
    | h1 b d _ =>
      simp only [List.all_append, Bool.and_eq_true, List.all_cons, List.all_nil] at ha hb
      simp at h
      have : xorL (a ++ [c]) (b ++ [d]) = xorL a b ++ [if c = d then 48 else 49] := by
        unfold xorL; rw [List.zipWith_append h]; rfl
      rw [this, numL_snoc, numL_snoc, numL_snoc, ih ha.1 hb.1 h, two_xor (bv_lt _) (bv_lt _)]
      congr 1
      rcases (bitB_iff c).1 ha.2.1 with rfl | rfl <;> rcases (bitB_iff d).1 hb.2.1 with rfl | rfl <;> rfl
theorem onesL_zero {l : List UInt8} (h : l.all bitB = true) : onesL l = 0 ↔ numL l = 0 := by
  unfold onesL
  induction l using snocInd with
  | h0 => simp [numL]
  | h1 l c ih =>
    simp only [List.all_append, Bool.and_eq_true, List.all_cons, List.all_nil] at h
    rw [numL_snoc, List.count_append]
    have := ih h.1
    rcases (bitB_iff c).1 h.2.1 with rfl | rfl
    · simp [bv]; omega
    · simp [bv]
theorem flipL_len (l : List UInt8) (i : Nat) : (flipL l i).length = l.length := by simp [flipL]
theorem flipL_bits {l : List UInt8} (h : l.all bitB = true) (i : Nat) : (flipL l i).all bitB = true := by
  unfold flipL
  rw [List.all_eq_true] at h ⊢
  intro x hx
  rcases List.mem_or_eq_of_mem_set hx with hx | rfl
  · exact h x hx
  · split <;> rfl
theorem flipL_flip {l : List UInt8} (h : l.all bitB = true) {i : Nat} (hi : i < l.length) : flipL (flipL l i) i = l := by
  rw [List.all_eq_true] at h
  have hb := (bitB_iff _).1 (h _ (List.getElem_mem hi))
  apply List.ext_getElem (by simp [flipL])
  intro j h1 h2
  unfold flipL
  simp only [List.getElem_set, List.getElem?_set, List.length_set]
  by_cases hj : i = j
  · subst hj
    simp only [if_pos hi, if_true, List.getElem?_eq_getElem hi]
    rcases hb with e | e <;> simp [e]
  · simp [hj]

/-! ### parity -/
def stepR (r x : Nat) : Nat := if 4096 ≤ 2 * r + x then (2 * r + x) ^^^ 6159 else 2 * r + x
def runR (r : Nat) (l : List UInt8) : Nat := l.foldl (fun r c => stepR r (bv c)) r
def zeros (n : Nat) : List UInt8 := List.replicate n 48
def parN (l : List UInt8) : Nat := runR 0 (l ++ zeros 12)
def divL : List UInt8 := [49, 49, 48, 48, 48, 48, 48, 48, 48, 49, 49, 49, 49]
theorem stepR_lt {r x : Nat} (hr : r < 4096) (hx : x < 2) : stepR r x < 4096 := by
  unfold stepR
  split
  · have e : (2 * r + x) ^^^ 6159 = (2 * r + x) ^^^ 6159 := rfl
    have h1 : (2 * r + x) = 4096 + (2 * r + x - 4096) := by omega
    have hm : (2 * r + x - 4096) < 2 ^ 12 := by omega
    have h2 : ((2 * r + x) ^^^ 6159).testBit 12 = false := by
      rw [Nat.testBit_xor]
      have : (2 * r + x).testBit 12 = true := by
        rw [Nat.testBit_eq_decide_div_mod_eq]; simp; omega
      rw [this]; decide
    have h3 : (2 * r + x) ^^^ 6159 < 2 ^ 13 := Nat.xor_lt_two_pow (by omega) (by omega)
    have h4 := h2
    rw [Nat.testBit_eq_decide_div_mod_eq] at h4
    simp at h4
    omega
  · omega
theorem stepR_xor {a b x y : Nat} (ha : a < 4096) (hb : b < 4096) (hx : x < 2) (hy : y < 2) : stepR (a ^^^ b) (x ^^^ y) = stepR a x ^^^ stepR b y := by
  have key : ∀ m : Nat, m < 8192 → (4096 ≤ m ↔ m.testBit 12 = true) := by
    intro m hm
    rw [Nat.testBit_eq_decide_div_mod_eq]; simp; omega
  have h2 : x ^^^ y < 2 := Nat.xor_lt_two_pow (n := 1) (by omega) (by omega)
  have hab : a ^^^ b < 4096 := Nat.xor_lt_two_pow (n := 12) (by omega) (by omega)
  have e : 2 * (a ^^^ b) + (x ^^^ y) = (2 * a + x) ^^^ (2 * b + y) := (two_xor hx hy).symm
  have hbit : (2 * (a ^^^ b) + (x ^^^ y)).testBit 12 = Bool.xor ((2 * a + x).testBit 12) ((2 * b + y).testBit 12) := by rw [e, Nat.testBit_xor]
  unfold stepR
  simp only [key _ (show 2 * (a ^^^ b) + (x ^^^ y) < 8192 by omega), key _ (show 2 * a + x < 8192 by omega), key _ (show 2 * b + y < 8192 by omega), hbit]
  rw [e]
  cases (2 * a + x).testBit 12 <;> cases (2 * b + y).testBit 12 <;> simp
  · rw [Nat.xor_assoc]
  · rw [Nat.xor_assoc, Nat.xor_comm (2 * b + y) 6159, ← Nat.xor_assoc]
  · rw [Nat.xor_assoc (2 * a + x) 6159, ← Nat.xor_assoc 6159, Nat.xor_comm 6159 (2 * b + y), Nat.xor_assoc, Nat.xor_self, Nat.xor_zero]
theorem runR_lt {r : Nat} (hr : r < 4096) (l : List UInt8) : runR r l < 4096 := by
  unfold runR
  induction l generalizing r with
  | nil => exact hr
  | cons c l ih => exact ih (stepR_lt hr (bv_lt c))
theorem runR_app (r : Nat) (a b : List UInt8) : runR r (a ++ b) = runR (runR r a) b := by simp [runR, List.foldl_append]
theorem bv_xor (c d : UInt8) (hc : bitB c = true) (hd : bitB d = true) : bv (if c = d then 48 else 49) = bv c ^^^ bv d := by
  rcases (bitB_iff c).1 hc with rfl | rfl <;> rcases (bitB_iff d).1 hd with rfl | rfl <;> rfl
theorem runR_xor {a b : List UInt8} (ha : a.all bitB = true) (hb : b.all bitB = true) (h : a.length = b.length) {r s : Nat} (hr : r < 4096) (hs : s < 4096) :
    runR (r ^^^ s) (xorL a b) = runR r a ^^^ runR s b := by
  induction a generalizing b r s with
  | nil => cases b with
    | nil => rfl
    | cons y b => simp at h
  | cons c a ih =>
    cases b with
    | nil => simp at h
    | cons d b =>
      simp only [Bool.and_eq_true, List.all_cons] at ha hb
      simp at h
      have e : xorL (c :: a) (d :: b) = (if c = d then 48 else 49) :: xorL a b := rfl
      rw [e]
      unfold runR at ih ⊢
      simp only [List.foldl_cons]
      rw [bv_xor c d ha.1 hb.1, stepR_xor hr hs (bv_lt c) (bv_lt d)]
      exact ih ha.2 hb.2 h (stepR_lt hr (bv_lt c)) (stepR_lt hs (bv_lt d))
theorem zeros_bits (n : Nat) : (zeros n).all bitB = true := by
  rw [List.all_eq_true]; intro x hx; rw [List.eq_of_mem_replicate hx]; rfl
theorem xorL_zeros (n : Nat) : xorL (zeros n) (zeros n) = zeros n := by
  induction n with
  | zero => rfl
  | succ n ih =>
    have : zeros (n + 1) = 48 :: zeros n := rfl
    rw [this]; unfold xorL at ih ⊢; rw [List.zipWith_cons_cons, ih]; rfl
theorem xorL_app {a b c d : List UInt8} (h : a.length = c.length) : xorL (a ++ b) (c ++ d) = xorL a c ++ xorL b d := by
  unfold xorL; rw [List.zipWith_append h]
theorem parN_xor {a b : List UInt8} (ha : a.all bitB = true) (hb : b.all bitB = true) (h : a.length = b.length) : parN (xorL a b) = parN a ^^^ parN b := by
  unfold parN
  have e : xorL a b ++ zeros 12 = xorL (a ++ zeros 12) (b ++ zeros 12) := by rw [xorL_app h, xorL_zeros]
  rw [e]
  have := runR_xor (a := a ++ zeros 12) (b := b ++ zeros 12) (by rw [List.all_append, ha, zeros_bits]; rfl) (by rw [List.all_append, hb, zeros_bits]; rfl) (by simp [h]) (r := 0) (s := 0) (by omega) (by omega)
  exact this
theorem parN_lt (l : List UInt8) : parN l < 4096 := runR_lt (by omega) _
/-- the first twelve bits only fill the register -/
theorem runR_small (l : List UInt8) (h : l.length ≤ 12) : runR 0 l = numL l := by
  have hlt := numL_lt l
  induction l using snocInd with
  | h0 => rfl
  | h1 l c ih =>
    simp at h
    have h1 := numL_lt l
    have hp : 2 ^ l.length ≤ 2 ^ 11 := Nat.pow_le_pow_right (by omega) (by omega)
    rw [runR_app, ih (by omega) h1, numL_snoc]
    show stepR (numL l) (bv c) = _
    unfold stepR
    have := bv_lt c
    rw [if_neg (by omega)]
/-- syndrome as a number -/
def synN (l : List UInt8) : Nat := parN (l.take (l.length - 12)) ^^^ numL (l.drop (l.length - 12))
/-- a run over l, then the last twelve bits xored in, is a run over l with zeros: the syndrome is the run over the whole -/
theorem runR_last {r : Nat} (hr : r < 4096) (l : List UInt8) (hl : l.all bitB = true) (h : l.length ≤ 12) : runR r l = runR r (zeros l.length) ^^^ numL l := by
  have e : xorL (zeros l.length) l = l := by
    clear h
    induction l with
    | nil => rfl
    | cons c l ih =>
      simp only [Bool.and_eq_true, List.all_cons] at hl
      have : zeros (c :: l).length = 48 :: zeros l.length := rfl
      rw [this]
      have h2 : xorL (48 :: zeros l.length) (c :: l) = (if (48 : UInt8) = c then 48 else 49) :: xorL (zeros l.length) l := rfl
      rw [h2, ih hl.2]
      rcases (bitB_iff c).1 hl.1 with rfl | rfl <;> rfl
  have := runR_xor (zeros_bits l.length) hl (by simp [zeros]) hr (s := 0) (by omega)
  rw [e, Nat.xor_zero] at this
  rw [this, runR_small l h]
theorem synN_run {l : List UInt8} (hl : l.all bitB = true) (h : 12 ≤ l.length) : synN l = runR 0 l := by
  have hd : (l.drop (l.length - 12)).length = 12 := by simp; omega
  have hb : (l.drop (l.length - 12)).all bitB = true := by
    rw [List.all_eq_true] at hl ⊢
    intro x hx; exact hl x (List.mem_of_mem_drop hx)
  have e := runR_last (r := runR 0 (l.take (l.length - 12))) (runR_lt (by omega) _) _ hb (by omega)
  rw [hd, ← runR_app, List.take_append_drop, ← runR_app] at e
  rw [e]; rfl
theorem synN_lt {l : List UInt8} (hl : l.all bitB = true) (h : 12 ≤ l.length) : synN l < 4096 := by rw [synN_run hl h]; exact runR_lt (by omega) _
theorem synN_xor {a b : List UInt8} (ha : a.all bitB = true) (hb : b.all bitB = true) (h : a.length = b.length) (h12 : 12 ≤ a.length) : synN (xorL a b) = synN a ^^^ synN b := by
  rw [synN_run (xorL_bits _ _) (by rw [xorL_len h]; omega), synN_run ha h12, synN_run hb (by omega)]
  exact runR_xor ha hb h (r := 0) (s := 0) (by omega) (by omega)
/-- the single bit -/
def single (n i : Nat) : List UInt8 := (zeros n).set i 49
theorem flipL_xor {l : List UInt8} (h : l.all bitB = true) {i : Nat} (hi : i < l.length) : flipL l i = xorL l (single l.length i) := by
  rw [List.all_eq_true] at h
  unfold flipL xorL single zeros
  apply List.ext_getElem (by simp)
  intro j h1 h2
  have hj : j < l.length := by simpa using h1
  have hb := (bitB_iff _).1 (h _ (List.getElem_mem hj))
  simp only [List.getElem_set, List.getElem_zipWith, List.getElem_replicate]
  by_cases hij : i = j
  · subst hij
    simp only [if_true, List.getElem?_eq_getElem hi]
    rcases hb with e | e <;> simp [e]
  · simp only [if_neg hij]
    rcases hb with e | e <;> simp [e]
theorem single_len (n i : Nat) : (single n i).length = n := by simp [single, zeros]
theorem single_bits (n i : Nat) : (single n i).all bitB = true := by
  unfold single
  rw [List.all_eq_true]
  intro x hx
  rcases List.mem_or_eq_of_mem_set hx with hx | rfl
  · exact List.all_eq_true.1 (zeros_bits n) x hx
  · rfl
theorem synN_flip {l : List UInt8} (h : l.all bitB = true) (h12 : 12 ≤ l.length) {i : Nat} (hi : i < l.length) : synN (flipL l i) = synN l ^^^ synN (single l.length i) := by
  rw [flipL_xor h hi]
  exact synN_xor h (single_bits _ _) (by rw [single_len]) h12

/-! ### the long division -/
def divStep (A : List UInt8) (i : Nat) : List UInt8 := if A[i]? = some 49 then A.take i ++ (xorL ((A.drop i).take 13) divL ++ A.drop (i + 13)) else A
def divA (s : List UInt8) : Nat → List UInt8
  | 0 => s ++ zeros 12
  | i + 1 => divStep (divA s i) i
theorem numL_cons0 (l : List UInt8) : numL (48 :: l) = numL l := by simp [numL, bv]
theorem zeros_len (n : Nat) : (zeros n).length = n := by simp [zeros]
theorem zeros_snoc (n : Nat) : zeros n ++ [48] = zeros (n + 1) := by simp [zeros, List.replicate_succ']
theorem divL_num : numL divL = 6159 := by decide
theorem divL_bits : divL.all bitB = true := by decide
theorem runR_snoc (r : Nat) (l : List UInt8) (c : UInt8) : runR r (l ++ [c]) = stepR (runR r l) (bv c) := by rw [runR_app]; rfl
theorem divA_form {s : List UInt8} (hs : s.all bitB = true) (i : Nat) (hi : i ≤ s.length) :
    ∃ w : List UInt8, w.length = 12 ∧ w.all bitB = true ∧ numL w = runR 0 ((s ++ zeros 12).take (i + 12)) ∧ divA s i = zeros i ++ (w ++ (s ++ zeros 12).drop (i + 12)) := by
  have hm : (s ++ zeros 12).all bitB = true := by rw [List.all_append, hs, zeros_bits]; rfl
  have hml : (s ++ zeros 12).length = s.length + 12 := by simp [zeros]
  induction i with
  | zero =>
    refine ⟨(s ++ zeros 12).take 12, by rw [List.length_take, hml]; omega, ?_, ?_, ?_⟩
    · rw [List.all_eq_true] at hm ⊢
      intro x hx; exact hm x (List.mem_of_mem_take hx)
    · rw [Nat.zero_add, runR_small _ (by rw [List.length_take]; omega)]
    · simp only [Nat.zero_add]
      rw [List.take_append_drop]; rfl
  | succ i ih =>
    obtain ⟨w, hw, hwb, hwn, hA⟩ := ih (by omega)
    have hlt : i + 12 < (s ++ zeros 12).length := by omega
    obtain ⟨d, hd⟩ : ∃ d, (s ++ zeros 12)[i + 12] = d := ⟨_, rfl⟩
    have hdb : bitB d = true := by rw [← hd]; exact List.all_eq_true.1 hm _ (List.getElem_mem hlt)
    have hdrop : (s ++ zeros 12).drop (i + 12) = d :: (s ++ zeros 12).drop (i + 1 + 12) := by
      rw [List.drop_eq_getElem_cons hlt, hd, show i + 1 + 12 = i + 12 + 1 by omega]
    have htake : (s ++ zeros 12).take (i + 1 + 12) = (s ++ zeros 12).take (i + 12) ++ [d] := by
      rw [← hd, show i + 1 + 12 = i + 12 + 1 by omega, List.take_succ_eq_append_getElem hlt]
    rw [htake, runR_snoc, ← hwn]
    generalize (s ++ zeros 12).drop (i + 1 + 12) = rest at hdrop ⊢
    cases w with
    | nil => simp at hw
    | cons c w =>
      simp only [List.all_cons, Bool.and_eq_true] at hwb
      simp at hw
      have hA' : divA s i = zeros i ++ (c :: (w ++ [d]) ++ rest) := by rw [hA, hdrop]; simp
      have hci : (divA s i)[i]? = some c := by
        rw [hA', List.getElem?_append_right (by rw [zeros_len]; omega), zeros_len, Nat.sub_self]; rfl
      have hwl : numL w < 2 ^ 11 := by have := numL_lt w; rwa [hw] at this
      have hbd := bv_lt d
      have hstep : divA s (i + 1) = divStep (divA s i) i := rfl
      rcases (bitB_iff c).1 hwb.1 with rfl | rfl
      · refine ⟨w ++ [d], by simp [hw], by simp [hwb.2, hdb], ?_, ?_⟩
        · rw [numL_cons0, numL_snoc]
          unfold stepR
          rw [if_neg (by omega)]
        · rw [hstep]
          unfold divStep
          rw [hci, if_neg (by decide), hA', ← zeros_snoc]; simp
      · have h1 : numL (49 :: w) = 2048 + numL w := by
          have h2 := numL_xor (a := 49 :: w) (b := 48 :: w) (by simp [hwb.2, bitB]) (by simp [hwb.2, bitB]) rfl
          clear h2
          have : ∀ (l : List UInt8) (r : Nat), l.foldl (fun n c => 2 * n + bv c) r = 2 ^ l.length * r + numL l := by
            intro l
            induction l using snocInd with
            | h0 => intro r; simp [numL]
            | h1 l c ih => intro r; rw [List.foldl_append, ih, numL_snoc, List.length_append, List.length_singleton, Nat.pow_succ]; simp; rw [Nat.mul_add]; rw [Nat.mul_comm (2 ^ l.length) 2, Nat.mul_assoc]; omega
          have h3 := this w 1
          rw [hw] at h3
          exact h3
        have hx : (49 :: (w ++ [d])).length = divL.length := by simp [hw, divL]
        obtain ⟨y, hy⟩ : ∃ y, xorL (49 :: (w ++ [d])) divL = 48 :: y := ⟨xorL (w ++ [d]) divL.tail, rfl⟩
        have hyl : y.length = 12 := by
          have := xorL_len hx; rw [hy] at this; simp [hw] at this; exact this
        have hyb : y.all bitB = true := by
          have := xorL_bits (49 :: (w ++ [d])) divL
          rw [hy] at this; simp only [List.all_cons, Bool.and_eq_true] at this; exact this.2
        have hyn : numL y = (2 * (2048 + numL w) + bv d) ^^^ 6159 := by
          have h := numL_xor (a := 49 :: (w ++ [d])) (b := divL) (by simp [hwb.2, hdb]; rfl) divL_bits hx
          rw [hy, numL_cons0, divL_num] at h
          rw [h]
          have : 49 :: (w ++ [d]) = (49 :: w) ++ [d] := rfl
          rw [this, numL_snoc, h1]
        refine ⟨y, hyl, hyb, ?_, ?_⟩
        · rw [h1, hyn]
          unfold stepR
          rw [if_pos (by omega)]
        · rw [hstep]
          unfold divStep
          rw [hci, if_pos rfl, hA']
          have e1 : (zeros i ++ (49 :: (w ++ [d]) ++ rest)).take i = zeros i := by
            rw [List.take_append_of_le_length (by rw [zeros_len]; omega), List.take_of_length_le (by rw [zeros_len]; omega)]
          have e2 : (zeros i ++ (49 :: (w ++ [d]) ++ rest)).drop i = 49 :: (w ++ [d]) ++ rest := by
            rw [List.drop_append, List.drop_of_length_le (by rw [zeros_len]; omega), zeros_len]; simp
          have e3 : (49 :: (w ++ [d]) ++ rest).take 13 = 49 :: (w ++ [d]) := by
            rw [List.take_append_of_le_length (by simp [hw]), List.take_of_length_le (by simp [hw])]
          have e4 : (zeros i ++ (49 :: (w ++ [d]) ++ rest)).drop (i + 13) = rest := by
            rw [← List.drop_drop, e2, List.drop_append, List.drop_of_length_le (by simp [hw])]; simp [hw]
          rw [e1, e2, e3, e4, hy, ← zeros_snoc]; simp
theorem divA_len {s : List UInt8} (hs : s.all bitB = true) {i : Nat} (hi : i ≤ s.length) : (divA s i).length = s.length + 12 := by
  obtain ⟨w, h1, _, _, h4⟩ := divA_form hs i hi
  rw [h4]; simp [zeros, h1]; omega
theorem divA_bits {s : List UInt8} (hs : s.all bitB = true) {i : Nat} (hi : i ≤ s.length) : (divA s i).all bitB = true := by
  obtain ⟨w, h1, h2, _, h4⟩ := divA_form hs i hi
  have hm : (s ++ zeros 12).all bitB = true := by rw [List.all_append, hs, zeros_bits]; rfl
  rw [h4, List.all_append, List.all_append, zeros_bits, h2]
  simp only [Bool.true_and]
  rw [List.all_eq_true] at hm ⊢
  intro x hx; exact hm x (List.mem_of_mem_drop hx)
theorem divA_end {s : List UInt8} (hs : s.all bitB = true) : (divA s s.length).drop s.length = bitsL (parN s) 12 := by
  obtain ⟨w, h1, h2, h3, h4⟩ := divA_form hs s.length (Nat.le_refl _)
  have hml : (s ++ zeros 12).length = s.length + 12 := by simp [zeros]
  rw [h4, List.drop_append, List.drop_of_length_le (by rw [zeros_len]; omega), zeros_len]
  simp only [Nat.sub_self, List.nil_append, List.drop_zero]
  rw [List.drop_of_length_le (by rw [hml]; omega), List.append_nil]
  rw [List.take_of_length_le (by rw [hml]; omega)] at h3
  have := bits_numL h2
  rw [h1, h3] at this
  exact this.symm

/-! ### the patterns of the single bits -/
theorem synN_single_zero : ∀ n, n ≤ 64 → ∀ i, i < n → 12 ≤ n → synN (single n i) = runR 1 (zeros (n - 1 - i)) := by
  intro n hn i hi h12
  rw [synN_run (single_bits _ _) (by rw [single_len]; omega)]
  have e : single n i = zeros i ++ 49 :: zeros (n - 1 - i) := by
    unfold single zeros
    apply List.ext_getElem (by simp; omega)
    intro j h1 h2
    simp at h1
    simp only [List.getElem_set, List.getElem_replicate]
    by_cases hj : i = j
    · subst hj
      rw [if_pos rfl, List.getElem_append_right (by rw [List.length_replicate]; omega)]
      simp only [List.length_replicate, Nat.sub_self, List.getElem_cons_zero]
    · by_cases hj2 : j < i
      · rw [List.getElem_append_left (by rw [List.length_replicate]; omega), List.getElem_replicate, if_neg hj]
      · rw [List.getElem_append_right (by rw [List.length_replicate]; omega)]
        simp only [List.length_replicate]
        obtain ⟨k, hk⟩ : ∃ k, j - i = k + 1 := ⟨j - i - 1, by omega⟩
        simp only [hk, List.getElem_cons_succ, List.getElem_replicate]
        rw [if_neg hj]
  rw [e, runR_app]
  have : ∀ k, runR 0 (zeros k) = 0 := by
    intro k; induction k with
    | zero => rfl
    | succ k ih => have : zeros (k + 1) = 48 :: zeros k := rfl
                   rw [this]; exact ih
  rw [this]; rfl
/-- the pattern of the bit that lies k places ahead of the end -/
def pat (k : Nat) : Nat := runR 1 (zeros k)
def patsGo : Nat → Nat → List Nat
  | _, 0 => []
  | r, k + 1 => r :: patsGo (stepR r 0) k
def distinctB : List Nat → Bool
  | [] => true
  | a :: l => !l.contains a && distinctB l
theorem pats_ok : (distinctB (patsGo 1 64) && (patsGo 1 64).all (fun r => r != 0)) = true := by decide +kernel

/-! ### hex texts -/
def hexC (n : Nat) : UInt8 := if n < 10 then UInt8.ofNat (48 + n) else UInt8.ofNat (55 + n)
def hexV (c : UInt8) : Int := if 48 ≤ c.toNat ∧ c.toNat ≤ 57 then (c.toNat : Int) - 48 else if 65 ≤ c.toNat ∧ c.toNat ≤ 70 then (c.toNat : Int) - 55 else -1
def hexB (c : UInt8) : Bool := decide (0 ≤ hexV c)
def hexD : List UInt8 := [48, 49, 50, 51, 52, 53, 54, 55, 56, 57, 65, 66, 67, 68, 69, 70]
def hexGo : Nat → List UInt8 → List UInt8
  | 0, _ => []
  | k + 1, l => hexC (numL (l.take 4)) :: hexGo k (l.drop 4)
def hexL (l : List UInt8) : List UInt8 := hexGo (l.length / 4) l
def unhexL (l : List UInt8) : List UInt8 := l.flatMap fun c => bitsL (hexV c).toNat 4
def unhexOk (l : List UInt8) : Bool := decide (l.length ≤ 16) && l.all hexB
theorem hexC_nat {n : Nat} (h : n < 16) : (hexC n).toNat = if n < 10 then 48 + n else 55 + n := by
  unfold hexC
  split
  · rw [UInt8.toNat_ofNat']; omega
  · rw [UInt8.toNat_ofNat']; omega
theorem hexV_hexC {n : Nat} (h : n < 16) : hexV (hexC n) = n := by
  have := hexC_nat h
  unfold hexV
  rw [this]
  by_cases h1 : n < 10
  · rw [if_pos h1, if_pos (by omega)]; omega
  · rw [if_neg h1, if_neg (by omega), if_pos (by omega)]; omega
theorem hexV_lt (c : UInt8) : hexV c < 16 ∧ -1 ≤ hexV c := by unfold hexV; split <;> (try split) <;> omega
theorem hexC_hexV {c : UInt8} (h : 0 ≤ hexV c) : hexC (hexV c).toNat = c := by
  have hl := hexV_lt c
  apply UInt8.toNat_inj.1
  rw [hexC_nat (by omega)]
  unfold hexV at h ⊢
  by_cases h1 : 48 ≤ c.toNat ∧ c.toNat ≤ 57
  · rw [if_pos h1]; rw [if_pos (by omega)]; omega
  · rw [if_neg h1] at h ⊢
    by_cases h2 : 65 ≤ c.toNat ∧ c.toNat ≤ 70
    · rw [if_pos h2]; rw [if_neg (by omega)]; omega
    · rw [if_neg h2] at h; omega
theorem hexD_at : ∀ k, k < 16 → hexD[k]? = some (hexC k) := by
  intro k hk
  have : k = 0 ∨ k = 1 ∨ k = 2 ∨ k = 3 ∨ k = 4 ∨ k = 5 ∨ k = 6 ∨ k = 7 ∨ k = 8 ∨ k = 9 ∨ k = 10 ∨ k = 11 ∨ k = 12 ∨ k = 13 ∨ k = 14 ∨ k = 15 := by omega
  rcases this with rfl | rfl | rfl | rfl | rfl | rfl | rfl | rfl | rfl | rfl | rfl | rfl | rfl | rfl | rfl | rfl <;> rfl
theorem hexGo_len (k : Nat) (l : List UInt8) : (hexGo k l).length = k := by
  induction k generalizing l with
  | zero => rfl
  | succ k ih => simp [hexGo, ih]
theorem hexGo_app (k j : Nat) (l : List UInt8) : hexGo (k + j) l = hexGo k l ++ hexGo j (l.drop (4 * k)) := by
  induction k generalizing l with
  | zero => simp [hexGo]
  | succ k ih =>
    rw [show k + 1 + j = (k + j) + 1 by omega, hexGo, hexGo, ih, List.drop_drop]
    rw [show 4 + 4 * k = 4 * (k + 1) by omega]; rfl
theorem hexGo_snoc (k : Nat) (l : List UInt8) : hexGo (k + 1) l = hexGo k l ++ [hexC (numL ((l.drop (4 * k)).take 4))] := by
  rw [hexGo_app]; rfl
theorem num4 {l : List UInt8} (h : l.length ≤ 4) : numL l < 16 := by
  have h1 := numL_lt l
  have h2 : 2 ^ l.length ≤ 2 ^ 4 := Nat.pow_le_pow_right (by omega) h
  omega
theorem unhex_hexGo (k : Nat) (l : List UInt8) (hb : l.all bitB = true) (h : l.length = 4 * k) : unhexL (hexGo k l) = l ∧ (hexGo k l).all hexB = true := by
  induction k generalizing l with
  | zero => simp at h; subst h; exact ⟨rfl, rfl⟩
  | succ k ih =>
    have h4 : (l.take 4).length = 4 := by rw [List.length_take]; omega
    have hb4 : (l.take 4).all bitB = true := by
      rw [List.all_eq_true] at hb ⊢; intro x hx; exact hb x (List.mem_of_mem_take hx)
    have hbd : (l.drop 4).all bitB = true := by
      rw [List.all_eq_true] at hb ⊢; intro x hx; exact hb x (List.mem_of_mem_drop hx)
    have hn := num4 (l := l.take 4) (by omega)
    obtain ⟨i1, i2⟩ := ih (l.drop 4) hbd (by rw [List.length_drop]; omega)
    have hv := hexV_hexC hn
    constructor
    · unfold unhexL at i1 ⊢
      rw [hexGo, List.flatMap_cons, i1, hv, Int.toNat_natCast]
      have := bits_numL hb4
      rw [h4] at this
      rw [this, List.take_append_drop]
    · rw [hexGo, List.all_cons, i2]
      unfold hexB; rw [hv]; simp
theorem unhex_hexL {l : List UInt8} (hb : l.all bitB = true) (h : l.length % 4 = 0) : unhexL (hexL l) = l ∧ (hexL l).all hexB = true :=
  unhex_hexGo _ l hb (by omega)
theorem hexL_len (l : List UInt8) : (hexL l).length = l.length / 4 := hexGo_len _ _
theorem unhexL_len (l : List UInt8) : (unhexL l).length = 4 * l.length := by
  unfold unhexL
  induction l with
  | nil => rfl
  | cons c l ih => rw [List.flatMap_cons, List.length_append, ih, bitsL_len, List.length_cons]; omega
theorem unhexL_bits (l : List UInt8) : (unhexL l).all bitB = true := by
  unfold unhexL
  induction l with
  | nil => rfl
  | cons c l ih => rw [List.flatMap_cons, List.all_append, ih, bitsL_bits]; rfl
theorem hex_unhex {l : List UInt8} (h : l.all hexB = true) : hexL (unhexL l) = l := by
  unfold hexL
  rw [unhexL_len, Nat.mul_div_cancel_left _ (by omega)]
  induction l with
  | nil => rfl
  | cons c l ih =>
    simp only [List.all_cons, Bool.and_eq_true] at h
    have hc : 0 ≤ hexV c := by simpa [hexB] using h.1
    have hl := hexV_lt c
    have e1 : (unhexL (c :: l)).take 4 = bitsL (hexV c).toNat 4 := by
      unfold unhexL; rw [List.flatMap_cons, List.take_append_of_le_length (by rw [bitsL_len]; omega), List.take_of_length_le (by rw [bitsL_len]; omega)]
    have e2 : (unhexL (c :: l)).drop 4 = unhexL l := by
      unfold unhexL; rw [List.flatMap_cons, List.drop_append, List.drop_of_length_le (by rw [bitsL_len]; omega), bitsL_len]; simp
    rw [List.length_cons, hexGo, e1, e2, ih h.2, numL_bits (by omega), hexC_hexV hc]
theorem unhexL_snoc (l : List UInt8) (c : UInt8) : unhexL (l ++ [c]) = unhexL l ++ bitsL (hexV c).toNat 4 := by simp [unhexL]

/-! ### names -/
def letB (c : UInt8) : Bool := decide (65 ≤ c.toNat) && decide (c.toNat ≤ 90)
def nameB (l : List UInt8) : Bool := decide (1 ≤ l.length) && decide (l.length ≤ 8) && l.all (fun c => letB c || digB c)
/-- the code of a byte, 0 if there is none -/
def codeN (c : UInt8) : Nat := if letB c = true then c.toNat - 64 else if digB c = true ∨ c = 32 then c.toNat else 0
def codeB (c : UInt8) : Bool := letB c || digB c || c == 32
/-- the byte with a code, 0 if there is none -/
def ofCode (n : Int) : UInt8 := if 1 ≤ n ∧ n ≤ 26 then UInt8.ofNat (n.toNat + 64) else if (48 ≤ n ∧ n ≤ 57) ∨ n = 32 then UInt8.ofNat n.toNat else 0
def ofCodeB (n : Int) : Bool := (decide (1 ≤ n) && decide (n ≤ 26)) || (decide (48 ≤ n) && decide (n ≤ 57)) || decide (n = 32)
theorem letB_iff (c : UInt8) : letB c = true ↔ 65 ≤ c.toNat ∧ c.toNat ≤ 90 := by simp [letB]
theorem codeB_cases {c : UInt8} (h : codeB c = true) : letB c = true ∨ (letB c = false ∧ (digB c = true ∨ c = 32)) := by
  unfold codeB at h
  cases hl : letB c with
  | true => exact .inl rfl
  | false => rw [hl] at h; simp at h; exact .inr ⟨rfl, h⟩
theorem codeN_lt (c : UInt8) : codeN c < 64 := by
  unfold codeN
  split
  · rename_i h; have := (letB_iff c).1 h; omega
  · split
    · rename_i h; rcases h with h | rfl
      · have := (digB_iff c).1 h; omega
      · decide
    · omega
theorem ofCode_codeN {c : UInt8} (h : codeB c = true) : ofCodeB (codeN c) = true ∧ ofCode (codeN c) = c := by
  unfold codeN
  rcases codeB_cases h with h1 | ⟨h1, h2⟩
  · have := (letB_iff c).1 h1
    rw [if_pos h1]
    constructor
    · unfold ofCodeB; simp; left; left; omega
    · unfold ofCode
      rw [if_pos (by omega)]
      have e : ((c.toNat - 64 : Nat) : Int).toNat + 64 = c.toNat := by omega
      rw [e]; simp
  · rw [if_neg (by rw [h1]; simp), if_pos h2]
    have hr : (48 ≤ c.toNat ∧ c.toNat ≤ 57) ∨ c.toNat = 32 := by
      rcases h2 with h2 | h2
      · exact .inl ((digB_iff c).1 h2)
      · right; subst h2; rfl
    constructor
    · unfold ofCodeB; simp; omega
    · unfold ofCode
      rw [if_neg (by omega), if_pos (by omega)]; simp
theorem codeN_ofCode {n : Int} (h : ofCodeB n = true) : codeB (ofCode n) = true ∧ (codeN (ofCode n) : Int) = n ∧ ofCode n ≠ 0 := by
  unfold ofCodeB at h
  simp only [Bool.or_eq_true, Bool.and_eq_true, decide_eq_true_eq] at h
  unfold ofCode
  by_cases h1 : 1 ≤ n ∧ n ≤ 26
  · rw [if_pos h1]
    have e : (UInt8.ofNat (n.toNat + 64)).toNat = n.toNat + 64 := by rw [UInt8.toNat_ofNat']; omega
    have hl : letB (UInt8.ofNat (n.toNat + 64)) = true := (letB_iff _).2 (by rw [e]; omega)
    refine ⟨by unfold codeB; rw [hl]; rfl, ?_, ?_⟩
    · unfold codeN; rw [if_pos hl, e]; omega
    · intro h0; rw [h0] at e; simp at e
  · rw [if_neg h1, if_pos (by omega)]
    have e : (UInt8.ofNat n.toNat).toNat = n.toNat := by rw [UInt8.toNat_ofNat']; omega
    have hl : letB (UInt8.ofNat n.toNat) = false := by
      cases hb : letB (UInt8.ofNat n.toNat) with
      | false => rfl
      | true => have := (letB_iff _).1 hb; rw [e] at this; omega
    have hd : digB (UInt8.ofNat n.toNat) = true ∨ UInt8.ofNat n.toNat = 32 := by
      by_cases h3 : n = 32
      · right; subst h3; rfl
      · left; exact (digB_iff _).2 (by rw [e]; omega)
    refine ⟨?_, ?_, ?_⟩
    · unfold codeB; rcases hd with hd | hd
      · rw [hd]; simp
      · rw [hd]; rfl
    · unfold codeN; rw [if_neg (by rw [hl]; simp), if_pos hd, e]; omega
    · intro h0; rw [h0] at e; simp at e; omega
def padB (l : List UInt8) (i : Nat) : UInt8 := l.getD i 32
def nbTo (l : List UInt8) : Nat → List UInt8
  | 0 => []
  | k + 1 => nbTo l k ++ bitsL (codeN (padB l k)) 6
def nbL (l : List UInt8) : List UInt8 := nbTo l 8
theorem nbTo_len (l : List UInt8) (k : Nat) : (nbTo l k).length = 6 * k := by
  induction k with
  | zero => rfl
  | succ k ih => rw [nbTo, List.length_append, ih, bitsL_len]; omega
theorem nbTo_bits (l : List UInt8) (k : Nat) : (nbTo l k).all bitB = true := by
  induction k with
  | zero => rfl
  | succ k ih => rw [nbTo, List.all_append, ih, bitsL_bits]; rfl
theorem nbL_len (l : List UInt8) : (nbL l).length = 48 := nbTo_len l 8
theorem nbL_bits (l : List UInt8) : (nbL l).all bitB = true := nbTo_bits l 8
/-- the number of the i-th group of six -/
def grp (l : List UInt8) (i : Nat) : Nat := numL ((l.drop (6 * i)).take 6)
theorem grp_nbTo (l : List UInt8) (k i : Nat) (h : i < k) : grp (nbTo l k) i = codeN (padB l i) := by
  induction k with
  | zero => omega
  | succ k ih =>
    unfold grp at ih ⊢
    rw [nbTo]
    have hl := nbTo_len l k
    by_cases hi : i < k
    · rw [List.drop_append_of_le_length (by omega), List.take_append_of_le_length (by rw [List.length_drop]; omega)]
      exact ih hi
    · have : i = k := by omega
      subst this
      rw [List.drop_append, List.drop_of_length_le (by omega), hl]
      simp only [Nat.sub_self, List.drop_zero, List.nil_append]
      rw [List.take_of_length_le (by rw [bitsL_len]; omega), numL_bits (by have := codeN_lt (padB l i); omega)]
theorem all_take {l : List UInt8} {p : UInt8 → Bool} (h : l.all p = true) (k : Nat) : (l.take k).all p = true := by
  rw [List.all_eq_true] at h ⊢; intro x hx; exact h x (List.mem_of_mem_take hx)
theorem all_drop {l : List UInt8} {p : UInt8 → Bool} (h : l.all p = true) (k : Nat) : (l.drop k).all p = true := by
  rw [List.all_eq_true] at h ⊢; intro x hx; exact h x (List.mem_of_mem_drop hx)
/-- a bit string is told by its groups -/
theorem grp_ext : ∀ (k : Nat) (a b : List UInt8), a.all bitB = true → b.all bitB = true → a.length = 6 * k → b.length = 6 * k → (∀ i, i < k → grp a i = grp b i) → a = b := by
  intro k
  induction k with
  | zero => intro a b _ _ ha hb _; simp at ha hb; rw [ha, hb]
  | succ k ih =>
    intro a b h1 h2 ha hb h
    have h0 := h 0 (by omega)
    unfold grp at h0
    simp only [Nat.mul_zero, List.drop_zero] at h0
    have e1 : a.take 6 = b.take 6 := numL_inj (all_take h1 6) (all_take h2 6) (by rw [List.length_take, List.length_take]; omega) h0
    have e2 : a.drop 6 = b.drop 6 := by
      refine ih _ _ (all_drop h1 6) (all_drop h2 6) (by rw [List.length_drop]; omega) (by rw [List.length_drop]; omega) ?_
      intro i hi
      have := h (i + 1) (by omega)
      unfold grp at this ⊢
      rw [List.drop_drop, List.drop_drop, show 6 + 6 * i = 6 * (i + 1) by omega]
      exact this
    rw [← List.take_append_drop 6 a, ← List.take_append_drop 6 b, e1, e2]

def chTo (bits : List UInt8) : Nat → List UInt8
  | 0 => []
  | k + 1 => chTo bits k ++ [ofCode (grp bits k)]
def okTo (bits : List UInt8) : Nat → Bool
  | 0 => true
  | k + 1 => okTo bits k && ofCodeB (grp bits k)
def strip (l : List UInt8) : List UInt8 := (l.reverse.dropWhile (· == 32)).reverse
theorem strip_nil : strip [] = [] := rfl
theorem strip_space (l : List UInt8) : strip (l ++ [32]) = strip l := by simp [strip]
theorem strip_other (l : List UInt8) {c : UInt8} (h : c ≠ 32) : strip (l ++ [c]) = l ++ [c] := by
  unfold strip; simp [h]
theorem strip_split (l : List UInt8) : ∃ k, l = strip l ++ List.replicate k 32 := by
  induction l using snocInd with
  | h0 => exact ⟨0, rfl⟩
  | h1 l c ih =>
    by_cases h : c = 32
    · subst h
      obtain ⟨k, hk⟩ := ih
      refine ⟨k + 1, ?_⟩
      rw [strip_space, List.replicate_succ', ← List.append_assoc, ← hk]
    · exact ⟨0, by rw [strip_other l h]; simp⟩
theorem strip_app {s : List UInt8} (h : ∀ c, s.getLast? = some c → c ≠ 32) (k : Nat) : strip (s ++ List.replicate k 32) = s := by
  induction k with
  | zero =>
    simp only [List.replicate_zero, List.append_nil]
    induction s using snocInd with
    | h0 => rfl
    | h1 l c _ => exact strip_other l (h c (by simp))
  | succ k ih => rw [List.replicate_succ', ← List.append_assoc, strip_space, ih]
theorem chTo_len (bits : List UInt8) (k : Nat) : (chTo bits k).length = k := by
  induction k with
  | zero => rfl
  | succ k ih => simp [chTo, ih]
theorem chTo_at (bits : List UInt8) (k i : Nat) (h : i < k) : (chTo bits k)[i]? = some (ofCode (grp bits i)) := by
  induction k with
  | zero => omega
  | succ k ih =>
    rw [chTo]
    by_cases hi : i < k
    · rw [List.getElem?_append_left (by rw [chTo_len]; omega)]; exact ih hi
    · have : i = k := by omega
      subst this
      rw [List.getElem?_append_right (by rw [chTo_len]; omega), chTo_len]; simp
theorem okTo_at {bits : List UInt8} {k : Nat} : okTo bits k = true ↔ ∀ i, i < k → ofCodeB (grp bits i) = true := by
  induction k with
  | zero => simp [okTo]
  | succ k ih =>
    rw [okTo, Bool.and_eq_true, ih]
    constructor
    · rintro ⟨h1, h2⟩ i hi
      by_cases h : i < k
      · exact h1 i h
      · have : i = k := by omega
        subst this; exact h2
    · intro h; exact ⟨fun i hi => h i (by omega), h k (by omega)⟩
/-- the name with these bits -/
def pnOk (bits : List UInt8) : Bool := okTo bits 8 && nameB (strip (chTo bits 8))
def pnName (bits : List UInt8) : List UInt8 := strip (chTo bits 8)
/-- what the reference gathers -/
def gaTo (bits : List UInt8) : Nat → List UInt8
  | 0 => []
  | k + 1 => if ofCode (grp bits k) ≠ 0 ∧ ofCode (grp bits k) ≠ 32 then gaTo bits k ++ [ofCode (grp bits k)] else gaTo bits k
theorem gaTo_filter (bits : List UInt8) (k : Nat) : gaTo bits k = (chTo bits k).filter (fun c => c != 0 && c != 32) := by
  induction k with
  | zero => rfl
  | succ k ih =>
    rw [gaTo, chTo, List.filter_append, ← ih]
    by_cases h : ofCode (grp bits k) ≠ 0 ∧ ofCode (grp bits k) ≠ 32
    · rw [if_pos h]; simp [List.filter_cons, h.1, h.2]
    · rw [if_neg h]
      have : (ofCode (grp bits k) != 0 && ofCode (grp bits k) != 32) = false := by
        rw [Bool.eq_false_iff]; intro e; apply h; simpa using e
      simp [List.filter_cons, this]
theorem nameB_iff (l : List UInt8) : nameB l = true ↔ 1 ≤ l.length ∧ l.length ≤ 8 ∧ ∀ c ∈ l, letB c = true ∨ digB c = true := by
  unfold nameB; simp [and_assoc]
theorem name_chr {c : UInt8} (h : letB c = true ∨ digB c = true) : codeB c = true ∧ c ≠ 0 ∧ c ≠ 32 := by
  refine ⟨?_, ?_, ?_⟩
  · unfold codeB; rcases h with h | h <;> simp [h]
  · rintro rfl; rcases h with h | h <;> revert h <;> decide
  · rintro rfl; rcases h with h | h <;> revert h <;> decide
theorem pn_some {bits : List UInt8} (hb : bits.all bitB = true) (hl : bits.length = 48) (h : pnOk bits = true) : gaTo bits 8 = pnName bits ∧ nbL (pnName bits) = bits := by
  unfold pnOk at h
  rw [Bool.and_eq_true] at h
  obtain ⟨ho, hn⟩ := h
  have hn' := (nameB_iff _).1 hn
  obtain ⟨k, hk⟩ := strip_split (chTo bits 8)
  have hc := chTo_len bits 8
  constructor
  · rw [gaTo_filter, hk, List.filter_append]
    unfold pnName
    have e1 : (strip (chTo bits 8)).filter (fun c => c != 0 && c != 32) = strip (chTo bits 8) := by
      rw [List.filter_eq_self]
      intro c hc'
      have := name_chr (hn'.2.2 c hc')
      simp [this.2.1, this.2.2]
    have e2 : (List.replicate k (32 : UInt8)).filter (fun c => c != 0 && c != 32) = [] := by
      rw [List.filter_eq_nil_iff]; intro c hc'; rw [List.eq_of_mem_replicate hc']; decide
    rw [e1, e2, List.append_nil]
  · refine grp_ext 8 _ _ (nbL_bits _) hb (nbL_len _) (by omega) ?_
    intro i hi
    have h1 : grp (nbL (pnName bits)) i = codeN (padB (pnName bits) i) := grp_nbTo _ 8 i hi
    have h2 : padB (pnName bits) i = ofCode (grp bits i) := by
      have h3 := chTo_at bits 8 i hi
      rw [hk] at h3
      unfold padB pnName
      by_cases hi2 : i < (strip (chTo bits 8)).length
      · rw [List.getElem?_append_left hi2] at h3
        rw [List.getD_eq_getElem?_getD, h3]; rfl
      · rw [List.getElem?_append_right (by omega), List.getElem?_replicate] at h3
        rw [List.getD_eq_getElem?_getD, List.getElem?_eq_none (by omega)]
        split at h3
        · simpa using h3
        · simp at h3
    have h4 := codeN_ofCode (okTo_at.1 ho i hi)
    rw [h1, h2]
    have := h4.2.1
    omega
theorem last_name {s : List UInt8} (h : nameB s = true) : ∀ c, s.getLast? = some c → c ≠ 32 := by
  intro c hc
  have := ((nameB_iff _).1 h).2.2 c (List.mem_of_getLast? hc)
  exact (name_chr this).2.2
theorem padB_code {s : List UInt8} (h : nameB s = true) (i : Nat) : codeB (padB s i) = true := by
  unfold padB
  rw [List.getD_eq_getElem?_getD]
  cases hi : s[i]? with
  | none => rfl
  | some c => exact (name_chr (((nameB_iff _).1 h).2.2 c (List.mem_of_getElem? hi))).1
/-- a name is recovered from its bits -/
theorem pn_nb {s : List UInt8} (h : nameB s = true) : pnOk (nbL s) = true ∧ pnName (nbL s) = s := by
  have hn := (nameB_iff _).1 h
  have hg : ∀ i, i < 8 → ofCodeB (grp (nbL s) i) = true ∧ ofCode (grp (nbL s) i) = padB s i := by
    intro i hi
    have h1 : grp (nbL s) i = codeN (padB s i) := grp_nbTo _ 8 i hi
    rw [h1]; exact ofCode_codeN (padB_code h i)
  have hc : chTo (nbL s) 8 = s ++ List.replicate (8 - s.length) 32 := by
    apply List.ext_getElem?
    intro i
    by_cases hi : i < 8
    · rw [chTo_at _ _ _ hi, (hg i hi).2]
      unfold padB
      rw [List.getD_eq_getElem?_getD]
      by_cases h2 : i < s.length
      · rw [List.getElem?_append_left h2, List.getElem?_eq_getElem h2]; rfl
      · rw [List.getElem?_append_right (by omega), List.getElem?_replicate, if_pos (by omega), List.getElem?_eq_none (by omega)]; rfl
    · rw [List.getElem?_eq_none (by rw [chTo_len]; omega), List.getElem?_eq_none (by simp; omega)]
  have hs : strip (chTo (nbL s) 8) = s := by rw [hc]; exact strip_app (last_name h) _
  constructor
  · unfold pnOk; rw [hs, h, Bool.and_true]; exact okTo_at.2 fun i hi => (hg i hi).1
  · exact hs
/-- the two ways to read a name agree -/
theorem pn_agree {bits : List UInt8} (hb : bits.all bitB = true) (hl : bits.length = 48) :
    (pnOk bits = true → nameB (gaTo bits 8) = true ∧ nbL (gaTo bits 8) = bits ∧ gaTo bits 8 = pnName bits) ∧
    (nameB (gaTo bits 8) = true → nbL (gaTo bits 8) = bits → pnOk bits = true) := by
  constructor
  · intro h
    obtain ⟨h1, h2⟩ := pn_some hb hl h
    rw [h1]
    unfold pnOk at h; rw [Bool.and_eq_true] at h
    exact ⟨h.2, h2, rfl⟩
  · intro h1 h2
    have := (pn_nb h1).1
    rwa [h2] at this

/-! ### which bits are wrong -/
theorem patsGo_at (n r k : Nat) (h : k < n) : (patsGo r n)[k]? = some (runR r (zeros k)) := by
  induction n generalizing r k with
  | zero => omega
  | succ n ih =>
    cases k with
    | zero => rfl
    | succ k =>
      rw [patsGo, List.getElem?_cons_succ, ih _ _ (by omega)]; rfl
theorem distinct_at : ∀ (l : List Nat), distinctB l = true → ∀ (i j a : Nat), l[i]? = some a → l[j]? = some a → i = j := by
  intro l
  induction l with
  | nil => intro _ i j a h; simp at h
  | cons b l ih =>
    intro h i j a hi hj
    simp only [distinctB, Bool.and_eq_true, Bool.not_eq_true'] at h
    have hn : ∀ k : Nat, l[k]? = some b → False := by
      intro k hk
      have := List.mem_of_getElem? hk
      have h1 := h.1
      simp at h1; exact h1 this
    cases i with
    | zero => cases j with
      | zero => rfl
      | succ j => simp at hi hj; subst hi; exact (hn j hj).elim
    | succ i => cases j with
      | zero => simp at hi hj; subst hj; exact (hn i hi).elim
      | succ j => simp at hi hj; rw [ih h.2 i j a hi hj]
theorem pat_inj {i j : Nat} (hi : i < 64) (hj : j < 64) (h : pat i = pat j) : i = j := by
  have h1 := pats_ok
  rw [Bool.and_eq_true] at h1
  refine distinct_at _ h1.1 i j (pat i) (patsGo_at 64 1 i hi) ?_
  rw [h]; exact patsGo_at 64 1 j hj
theorem pat_ne {i : Nat} (hi : i < 64) : pat i ≠ 0 := by
  have h1 := pats_ok
  rw [Bool.and_eq_true, List.all_eq_true] at h1
  have := h1.2 _ (List.mem_of_getElem? (patsGo_at 64 1 i hi))
  simpa [pat] using this
theorem syn_pat {n i : Nat} (h1 : 12 ≤ n) (h2 : n ≤ 64) (hi : i < n) : synN (single n i) = pat (n - 1 - i) := synN_single_zero n h2 i hi h1
theorem syn_inj {n i j : Nat} (h1 : 12 ≤ n) (h2 : n ≤ 64) (hi : i < n) (hj : j < n) (h : synN (single n i) = synN (single n j)) : i = j := by
  rw [syn_pat h1 h2 hi, syn_pat h1 h2 hj] at h
  have := pat_inj (by omega) (by omega) h
  omega
theorem syn_ne {n i : Nat} (h1 : 12 ≤ n) (h2 : n ≤ 64) (hi : i < n) : synN (single n i) ≠ 0 := by
  rw [syn_pat h1 h2 hi]; exact pat_ne (by omega)
theorem xor_zero_iff (a b : Nat) : a ^^^ b = 0 ↔ a = b := by
  constructor
  · intro h
    have : a ^^^ b ^^^ b = 0 ^^^ b := by rw [h]
    rwa [Nat.xor_assoc, Nat.xor_self, Nat.xor_zero, Nat.zero_xor] at this
  · rintro rfl; exact Nat.xor_self a
theorem flip_sound {l : List UInt8} (h : l.all bitB = true) (h1 : 12 ≤ l.length) {i : Nat} (hi : i < l.length) : synN (flipL l i) = 0 ↔ synN (single l.length i) = synN l := by
  rw [synN_flip h h1 hi, xor_zero_iff]; exact eq_comm
theorem flip2_sound {l : List UInt8} (h : l.all bitB = true) (h1 : 12 ≤ l.length) {i k : Nat} (hi : i < l.length) (hk : k < l.length) :
    synN (flipL (flipL l i) k) = 0 ↔ synN (single l.length i) ^^^ synN (single l.length k) = synN l := by
  rw [synN_flip (flipL_bits h i) (by rw [flipL_len]; exact h1) (by rw [flipL_len]; exact hk), flipL_len, synN_flip h h1 hi, xor_zero_iff]
  constructor
  · intro e; rw [← e, Nat.xor_comm, Nat.xor_assoc, Nat.xor_self, Nat.xor_zero]
  · intro e; rw [← e, Nat.xor_comm (synN (single l.length i)) (synN (single l.length k)), Nat.xor_assoc, Nat.xor_self, Nat.xor_zero]
/-- the first index below k at which p holds -/
def firstTo (p : Nat → Bool) : Nat → Option Nat
  | 0 => none
  | k + 1 => match firstTo p k with
    | some i => some i
    | none => if p k = true then some k else none
theorem firstTo_none {p : Nat → Bool} {k : Nat} : firstTo p k = none ↔ ∀ i, i < k → p i = false := by
  induction k with
  | zero => simp [firstTo]
  | succ k ih =>
    rw [firstTo]
    cases h : firstTo p k with
    | some i =>
      simp only [reduceCtorEq, false_iff]
      intro h2
      rw [h] at ih
      have := ih.2 fun i hi => h2 i (by omega)
      simp at this
    | none =>
      have h3 := ih.1 h
      by_cases hp : p k = true
      · simp only [hp, if_true, reduceCtorEq, false_iff]
        intro h2; have := h2 k (by omega); rw [hp] at this; simp at this
      · simp only [hp]
        simp only [Bool.not_eq_true] at hp
        constructor
        · intro _ i hi
          by_cases e : i = k
          · subst e; exact hp
          · exact h3 i (by omega)
        · intro _; rfl
theorem firstTo_some {p : Nat → Bool} {k i : Nat} : firstTo p k = some i ↔ i < k ∧ p i = true ∧ ∀ j, j < i → p j = false := by
  induction k with
  | zero => simp [firstTo]
  | succ k ih =>
    rw [firstTo]
    cases h : firstTo p k with
    | some m =>
      rw [h] at ih
      simp only [Option.some.injEq] at ih ⊢
      constructor
      · intro e; have := ih.1 e; exact ⟨by omega, this.2⟩
      · rintro ⟨h1, h2, h3⟩
        by_cases e : i = k
        · subst e
          have hm : firstTo p i = some m := h
          have : firstTo p i = none := firstTo_none.2 fun j hj => h3 j hj
          rw [this] at hm; simp at hm
        · exact ih.2 ⟨by omega, h2, h3⟩
    | none =>
      have h3 := firstTo_none.1 h
      by_cases hp : p k = true
      · simp only [hp, if_true, Option.some.injEq]
        constructor
        · rintro rfl; exact ⟨by omega, hp, h3⟩
        · rintro ⟨h1, h2, h4⟩
          by_cases e : i = k
          · exact e.symm
          · have := h3 i (by omega); rw [h2] at this; simp at this
      · simp only [hp]
        simp only [Bool.not_eq_true] at hp
        constructor
        · intro e; simp at e
        · rintro ⟨h1, h2, h4⟩
          by_cases e : i = k
          · subst e; rw [hp] at h2; simp at h2
          · have := h3 i (by omega); rw [h2] at this; simp at this
/-- the parity of the number of ones -/
def phi (a : Nat) : Bool := Bool.xor (a.testBit 0) (Bool.xor (a.testBit 1) (Bool.xor (a.testBit 2) (Bool.xor (a.testBit 3) (Bool.xor (a.testBit 4) (Bool.xor (a.testBit 5) (Bool.xor (a.testBit 6) (Bool.xor (a.testBit 7) (Bool.xor (a.testBit 8) (Bool.xor (a.testBit 9) (Bool.xor (a.testBit 10) (Bool.xor (a.testBit 11) (a.testBit 12))))))))))))
theorem xor4 (a b c d : Bool) : Bool.xor (Bool.xor a b) (Bool.xor c d) = Bool.xor (Bool.xor a c) (Bool.xor b d) := by cases a <;> cases b <;> cases c <;> cases d <;> rfl
theorem phi_xor (a b : Nat) : phi (a ^^^ b) = Bool.xor (phi a) (phi b) := by
  unfold phi
  simp only [Nat.testBit_xor]
  generalize a.testBit 0 = a0; generalize a.testBit 1 = a1; generalize a.testBit 2 = a2; generalize a.testBit 3 = a3; generalize a.testBit 4 = a4; generalize a.testBit 5 = a5; generalize a.testBit 6 = a6
  generalize a.testBit 7 = a7; generalize a.testBit 8 = a8; generalize a.testBit 9 = a9; generalize a.testBit 10 = a10; generalize a.testBit 11 = a11; generalize a.testBit 12 = a12
  generalize b.testBit 0 = b0; generalize b.testBit 1 = b1; generalize b.testBit 2 = b2; generalize b.testBit 3 = b3; generalize b.testBit 4 = b4; generalize b.testBit 5 = b5; generalize b.testBit 6 = b6
  generalize b.testBit 7 = b7; generalize b.testBit 8 = b8; generalize b.testBit 9 = b9; generalize b.testBit 10 = b10; generalize b.testBit 11 = b11; generalize b.testBit 12 = b12
  simp only [xor4]
theorem phi_two (r x : Nat) (hr : r < 4096) (hx : x < 2) : phi (2 * r + x) = Bool.xor (phi r) (decide (x = 1)) := by
  have h12 : r.testBit 12 = false := by rw [Nat.testBit_eq_decide_div_mod_eq]; simp; omega
  have h0 : (2 * r + x).testBit 0 = decide (x = 1) := by
    rw [Nat.testBit_zero]
    have hx' : x = 0 ∨ x = 1 := by omega
    rcases hx' with rfl | rfl <;> simp <;> omega
  have hs : ∀ i, (2 * r + x).testBit (i + 1) = r.testBit i := by
    intro i; rw [Nat.testBit_succ]; congr 1; omega
  unfold phi
  rw [h0, hs 0, hs 1, hs 2, hs 3, hs 4, hs 5, hs 6, hs 7, hs 8, hs 9, hs 10, hs 11, h12]
  generalize r.testBit 0 = a0; generalize r.testBit 1 = a1; generalize r.testBit 2 = a2; generalize r.testBit 3 = a3; generalize r.testBit 4 = a4; generalize r.testBit 5 = a5; generalize r.testBit 6 = a6
  generalize r.testBit 7 = a7; generalize r.testBit 8 = a8; generalize r.testBit 9 = a9; generalize r.testBit 10 = a10; generalize r.testBit 11 = a11
  generalize decide (x = 1) = y
  simp only [Bool.xor_false]
  rw [Bool.xor_comm]
theorem phi_step (r x : Nat) (hr : r < 4096) (hx : x < 2) : phi (stepR r x) = Bool.xor (phi r) (decide (x = 1)) := by
  unfold stepR
  split
  · rw [phi_xor, phi_two r x hr hx]
    have : phi 6159 = false := by decide
    rw [this, Bool.xor_false]
  · exact phi_two r x hr hx
theorem phi_run (l : List UInt8) : ∀ r, r < 4096 → phi (runR r l) = Bool.xor (phi r) (decide (onesL l % 2 = 1)) := by
  induction l with
  | nil => intro r _; simp [runR, onesL]
  | cons c l ih =>
    intro r hr
    have := ih (stepR r (bv c)) (stepR_lt hr (bv_lt c))
    unfold runR at this ⊢
    rw [List.foldl_cons, this, phi_step r _ hr (bv_lt c), Bool.xor_assoc]
    congr 1
    unfold onesL bv
    rw [List.count_cons]
    by_cases h : c = 49
    · subst h
      simp
      cases hh : decide (List.count 49 l % 2 = 1) with
      | true => simp at hh; simp; omega
      | false => simp at hh; simp; omega
    · simp [h]
theorem even_ones {l : List UInt8} (h : l.all bitB = true) (h1 : 12 ≤ l.length) (h0 : synN l = 0) : onesL l % 2 = 0 := by
  rw [synN_run h h1] at h0
  have := phi_run l 0 (by omega)
  rw [h0] at this
  have e : phi 0 = false := by decide
  rw [e] at this
  simp at this; omega
theorem ones_none {l : List UInt8} (h : l.all bitB = true) (h0 : onesL l = 0) : l = zeros l.length := by
  unfold onesL at h0
  rw [List.count_eq_zero] at h0
  unfold zeros
  rw [List.eq_replicate_iff]
  refine ⟨rfl, fun c hc => ?_⟩
  rcases (bitB_iff c).1 (List.all_eq_true.1 h c hc) with e | e
  · exact e
  · subst e; exact absurd hc h0
theorem ones_some {l : List UInt8} (h0 : 0 < onesL l) : ∃ i, i < l.length ∧ l[i]? = some 49 ∧ onesL (flipL l i) = onesL l - 1 := by
  unfold onesL at h0
  have hm := List.count_pos_iff.1 h0
  obtain ⟨i, hi, he⟩ := List.getElem_of_mem hm
  refine ⟨i, hi, by rw [List.getElem?_eq_getElem hi, he], ?_⟩
  unfold onesL flipL
  rw [List.getElem?_eq_getElem hi, he, if_pos rfl, List.count_set hi, he]; simp
theorem zeros_syn {n : Nat} (h : 12 ≤ n) : synN (zeros n) = 0 := by
  rw [synN_run (zeros_bits n) (by rw [zeros_len]; exact h)]
  have : ∀ k, runR 0 (zeros k) = 0 := by
    intro k; induction k with
    | zero => rfl
    | succ k ih => have : zeros (k + 1) = 48 :: zeros k := rfl
                   rw [this]; exact ih
  exact this n
/-- two different sound bit strings differ in at least four bits -/
theorem four_apart {l : List UInt8} (h : l.all bitB = true) (h1 : 12 ≤ l.length) (h2 : l.length ≤ 64) (h0 : synN l = 0) : onesL l = 0 ∨ 4 ≤ onesL l := by
  have he := even_ones h h1 h0
  by_cases hz : onesL l = 0
  · exact .inl hz
  · by_cases h4 : 4 ≤ onesL l
    · exact .inr h4
    · exfalso
      obtain ⟨i, hi, hi1, hi2⟩ := ones_some (l := l) (by omega)
      obtain ⟨k, hk, hk1, hk2⟩ := ones_some (l := flipL l i) (by omega)
      rw [flipL_len] at hk
      have hz2 : onesL (flipL (flipL l i) k) = 0 := by omega
      have hb2 := flipL_bits (flipL_bits h i) k
      have e := ones_none hb2 hz2
      have hs : synN (flipL (flipL l i) k) = 0 := by rw [e, flipL_len, flipL_len]; exact zeros_syn h1
      have hx := (flip2_sound h h1 hi hk).1 hs
      rw [h0, xor_zero_iff] at hx
      have hik := syn_inj h1 h2 hi hk hx
      subst hik
      unfold flipL at hk1
      rw [hi1, if_pos rfl] at hk1
      rw [List.getElem?_set, if_pos rfl, if_pos hi] at hk1
      simp at hk1

/-! ### one wrong byte is found -/
theorem ckf_inj {a b e : Nat} (ha : a < 999979) (hb : b < 999979) (h : (41 * a + e + 1) % 999979 = (41 * b + e + 1) % 999979) : a = b := by omega
theorem ckf_byte {a d e : Nat} (hd : d < 256) (he : e < 256) (h : (41 * a + d + 1) % 999979 = (41 * a + e + 1) % 999979) : d = e := by omega
theorem ck_app (u v : List UInt8) : ck (u ++ v) = v.foldl (fun h c => (41 * h + c.toNat + 1) % 999979) (ck u) := by simp [ck, List.foldl_append]
theorem ckfold_inj (v : List UInt8) : ∀ a b, a < 999979 → b < 999979 → v.foldl (fun h c => (41 * h + c.toNat + 1) % 999979) a = v.foldl (fun h c => (41 * h + c.toNat + 1) % 999979) b → a = b := by
  induction v with
  | nil => intro a b _ _ h; exact h
  | cons c v ih =>
    intro a b ha hb h
    rw [List.foldl_cons, List.foldl_cons] at h
    exact ckf_inj ha hb (ih _ _ (Nat.mod_lt _ (by omega)) (Nat.mod_lt _ (by omega)) h)
theorem ck_change {u v : List UInt8} {c d : UInt8} (h : ck (u ++ c :: v) = ck (u ++ d :: v)) : c = d := by
  rw [ck_app, ck_app, List.foldl_cons, List.foldl_cons] at h
  have := ckfold_inj v _ _ (Nat.mod_lt _ (by omega)) (Nat.mod_lt _ (by omega)) h
  exact UInt8.toNat_inj.1 (ckf_byte c.toNat_lt d.toNat_lt this)
theorem dec_no35 (n : Nat) : (35 : UInt8) ∉ dec n := by
  intro h
  have := List.all_eq_true.1 (dec_all n) _ h
  revert this; decide
theorem slT_len (l : List UInt8) : (slT l).length = l.length + 1 + (dec (ck l)).length := by simp [slT]; omega
theorem hd_slT {x : List UInt8} (h : (35 : UInt8) ∉ x) : hd 35 (slT x) = x := hd_stop h _
theorem app_cancel {a b c d : List UInt8} (h : a ++ b = c ++ d) (hl : a.length = c.length) : a = c ∧ b = d := List.append_inj h hl
theorem slT_found {x u v : List UInt8} {c d : UInt8} (hx : (35 : UInt8) ∉ x) (hy : slT x = u ++ c :: v) (hne : d ≠ c) (h : slT (hd 35 (u ++ d :: v)) = u ++ d :: v) : False := by
  unfold slT at hy
  have hl := congrArg List.length hy
  simp at hl
  by_cases h1 : u.length < x.length
  · have e1 : x = u ++ x.drop u.length := by
      have : (x ++ 35 :: dec (ck x)).take u.length = u := by rw [hy]; simp
      rw [List.take_append_of_le_length (by omega)] at this
      conv => lhs; rw [← List.take_append_drop u.length x, this]
    obtain ⟨x', hx'⟩ : ∃ x', x.drop u.length = c :: x' := by
      have h2 : (x ++ 35 :: dec (ck x)).drop u.length = c :: v := by rw [hy]; simp
      rw [List.drop_append_of_le_length (by omega)] at h2
      cases hd2 : x.drop u.length with
      | nil => have := congrArg List.length hd2; simp at this; omega
      | cons a t => rw [hd2] at h2; injection h2 with h3 h4; subst h3; exact ⟨t, rfl⟩
    rw [hx'] at e1
    have hv : v = x' ++ 35 :: dec (ck x) := by
      rw [e1] at hy
      simp only [List.append_assoc, List.cons_append] at hy
      have := (app_cancel hy rfl).2
      injection this with _ h3
      rw [← e1] at h3
      exact h3.symm
    have hu : (35 : UInt8) ∉ u := fun hm => hx (by rw [e1]; simp [hm])
    have hx2 : (35 : UInt8) ∉ x' := fun hm => hx (by rw [e1]; simp [hm])
    by_cases h35 : d = 35
    · subst h35
      rw [hd_stop hu] at h
      unfold slT at h
      have := (app_cancel h rfl).2
      injection this with _ h3
      have hm : (35 : UInt8) ∈ dec (ck u) := by rw [h3, hv]; simp
      exact dec_no35 _ hm
    · have hnot : (35 : UInt8) ∉ u ++ d :: x' := by
        intro hm
        simp only [List.mem_append, List.mem_cons] at hm
        rcases hm with hm | hm | hm
        · exact hu hm
        · exact h35 hm.symm
        · exact hx2 hm
      have e2 : u ++ d :: v = (u ++ d :: x') ++ 35 :: dec (ck x) := by rw [hv]; simp
      rw [e2, hd_stop hnot] at h
      unfold slT at h
      have := (app_cancel h rfl).2
      injection this with _ h3
      have h4 := dec_inj h3
      rw [e1] at h4
      exact hne (ck_change h4)
  · by_cases h2 : u.length = x.length
    · have := app_cancel hy h2.symm
      obtain ⟨e1, e2⟩ := this
      injection e2 with e3 e4
      subst e1
      subst e3
      have hnot : (35 : UInt8) ∉ x ++ d :: v := by
        intro hm
        simp only [List.mem_append, List.mem_cons] at hm
        rcases hm with hm | hm | hm
        · exact hx hm
        · exact hne hm.symm
        · rw [← e4] at hm; exact dec_no35 _ hm
      rw [hd_self hnot] at h
      have := congrArg List.length h
      rw [slT_len] at this
      omega
    · have h3 : x.length < u.length := by omega
      obtain ⟨u', hu'⟩ : ∃ u', u = x ++ 35 :: u' := by
        have h4 : (x ++ 35 :: dec (ck x)).take u.length = u := by rw [hy]; simp
        rw [List.take_append, List.take_of_length_le (by omega)] at h4
        obtain ⟨k, hk⟩ : ∃ k, u.length - x.length = k + 1 := ⟨u.length - x.length - 1, by omega⟩
        rw [hk, List.take_succ_cons] at h4
        exact ⟨_, h4.symm⟩
      have e1 : dec (ck x) = u' ++ c :: v := by
        rw [hu'] at hy
        simp only [List.append_assoc, List.cons_append] at hy
        have := (app_cancel hy rfl).2
        injection this
      have e2 : u ++ d :: v = x ++ 35 :: (u' ++ d :: v) := by rw [hu']; simp
      rw [e2, hd_stop hx] at h
      unfold slT at h
      have := (app_cancel h rfl).2
      injection this with _ h5
      rw [e1] at h5
      have := (app_cancel h5 rfl).2
      injection this with h6
      exact hne h6.symm

/-! ### heights -/
def nhI (h low high step : Int) : Int := if 2 * (min high (max low h) - (low + (min high (max low h) - low) / step * step)) > step then low + (min high (max low h) - low) / step * step + step else low + (min high (max low h) - low) / step * step
def nhS (h low step most : Int) : Int := if h < low then low else low + step * (if (h - low + (step - 1) / 2) / step < most then (h - low + (step - 1) / 2) / step else most)
theorem nh_fine (h : Int) : nhI h (-1000) 50175 25 = nhS h (-1000) 25 2047 := by
  unfold nhI nhS; omega
theorem nh_coarse (h : Int) : nhI h (-1200) 126700 100 = nhS h (-1200) 100 1279 := by
  unfold nhI nhS; omega

/-! ### what the functions of chapter 1 return -/
def ckI (l : List UInt8) : Int := if l.length ≤ 4000 then (ck l : Int) else 0
def ckOk (l : List UInt8) : Bool := decide (l.length ≤ 4000)
def inB (n lo hi : Int) : Bool := decide (lo ≤ n) && decide (n ≤ hi)
theorem inB_iff {n lo hi : Int} : inB n lo hi = true ↔ lo ≤ n ∧ n ≤ hi := by simp [inB]
theorem inB_no {n lo hi : Int} : inB n lo hi = false ↔ n < lo ∨ hi < n := by
  rw [Bool.eq_false_iff, Ne, inB_iff]; omega
def fiOk (n : Int) : Bool := inB n (-999999) 999999
def fiT (n : Int) : List UInt8 := if fiOk n = true then txt n else []
def piI (l : List UInt8) : Int := if okP l = true then sg l else 0
def hasB (b : UInt8) (l : List UInt8) : Bool := l.contains b
theorem hasB_iff {b : UInt8} {l : List UInt8} : hasB b l = true ↔ b ∈ l := by simp [hasB]
theorem hasB_no {b : UInt8} {l : List UInt8} : hasB b l = false ↔ b ∉ l := by simp [hasB]
def acOk (l : List UInt8) : Bool := decide (l.length ≤ 4000) && !hasB 35 l && decide ((slT l).length ≤ 4000)
def acT (l : List UInt8) : List UInt8 := if acOk l = true then slT l else []
def vcOk (l : List UInt8) : Bool := decide (l.length ≤ 4000) && decide (slT (hd 35 l) = l)
def vcT (l : List UInt8) : List UInt8 := if vcOk l = true then hd 35 l else []
def numI (l : List UInt8) : Int := if numB l = true then (val l : Int) else 0
theorem take_all_true {p : UInt8 → Bool} {l : List UInt8} {k : Nat} (h : (l.take k).all p = true) (hk : k < l.length) (h2 : p (l[k]) = true) : (l.take (k + 1)).all p = true := by
  rw [List.take_succ_eq_append_getElem hk, List.all_append, h]; simp [h2]
theorem all_false {p : UInt8 → Bool} {l : List UInt8} {k : Nat} (hk : k < l.length) (h : p (l[k]) = false) : l.all p = false := by
  rw [Bool.eq_false_iff]; intro e
  have := List.all_eq_true.1 e _ (List.getElem_mem hk)
  rw [h] at this; simp at this
theorem numB_false_len {l : List UInt8} (h : l.length = 0 ∨ 9 < l.length) : numB l = false := by
  rw [Bool.eq_false_iff]; intro e
  have := (numB_iff l).1 e
  omega
theorem numB_false_zero {l : List UInt8} (h : l.head? = some 48) (h1 : 1 < l.length) : numB l = false := by
  rw [Bool.eq_false_iff]; intro e
  have := ((numB_iff l).1 e).2.2.2
  rcases this with e | e
  · omega
  · exact e h
theorem numB_all {l : List UInt8} (h0 : 1 ≤ l.length) (h9 : l.length ≤ 9) (h : l.length = 1 ∨ l.head? ≠ some 48) : numB l = l.all digB := by
  cases ha : l.all digB with
  | true => exact (numB_iff l).2 ⟨h0, h9, ha, h⟩
  | false =>
    rw [Bool.eq_false_iff]; intro e
    have := ((numB_iff l).1 e).2.2.1
    rw [ha] at this; simp at this
/-- the reference's code of a byte: -1 if there is none -/
def codeI (c : UInt8) : Int := if codeB c = true then (codeN c : Int) else -1
/-- SplitString -/
def ssOk (s sep : List UInt8) : Bool := decide (s.length ≤ 4000) && decide (sep.length = 1)
def ssL (s sep : List UInt8) : List (List UInt8) := if ssOk s sep = true then spl (sep.headD 0) s else []
/-- how much room is left behind some texts: -1 if there is not enough -/
def sumL (l : List (List UInt8)) : Nat := (l.map List.length).sum
def szI (left : Int) (l : List (List UInt8)) : Int := if (l.length : Int) + sumL l ≤ left then left - l.length - sumL l else -1
theorem sumL_snoc (l : List (List UInt8)) (x : List UInt8) : sumL (l ++ [x]) = sumL l + x.length := by simp [sumL]
theorem sumL_app (l r : List (List UInt8)) : sumL (l ++ r) = sumL l + sumL r := by simp [sumL]
/-- JoinStrings -/
def jsOk (l : List (List UInt8)) (sep : List UInt8) : Bool := decide (sep.length = 1) && decide (l ≠ []) && l.all (fun p => !hasB (sep.headD 0) p) && decide ((jn sep l).length ≤ 4000)
def jsT (l : List (List UInt8)) (sep : List UInt8) : List UInt8 := if jsOk l sep = true then jn sep l else []
/-! ### Gray codes -/
def fgL (n g : Nat) : Nat := if g = 0 then n else fgL (n ^^^ g) (g / 2)
termination_by g
decreasing_by omega
theorem fgL_zero (n : Nat) : fgL n 0 = n := by rw [fgL]; simp
theorem fgL_step (n g : Nat) (h : 0 < g) : fgL n g = fgL (n ^^^ g) (g / 2) := by
  rw [fgL]; rw [if_neg (by omega)]
theorem fgL_lt (g : Nat) : ∀ n, n < 2048 → g < 2048 → fgL n g < 2048 := by
  induction g using Nat.strongRecOn with
  | _ g ih =>
    intro n hn hg
    rcases Nat.eq_zero_or_pos g with h | h
    · subst h; rw [fgL_zero]; exact hn
    · rw [fgL_step n g h]
      exact ih (g / 2) (by omega) _ (Nat.xor_lt_two_pow (n := 11) (by omega) (by omega)) (by omega)
/-- DecodeHeight -/
def dhF (n : Int) : Bool := inB n 2048 4095
def dhOk (n : Int) : Bool := inB n 2048 4095 || (inB n 0 2047 && decide (fgL 0 n.toNat ≤ 1279))
def dhI (n : Int) : Int := if inB n 2048 4095 = true then -1000 + 25 * (n - 2048) else if dhOk n = true then -1200 + 100 * (fgL 0 n.toNat : Int) else 0
def leastI (a b : Int) : Int := if a < b then a else b
/-- a fraction in lowest terms -/
def crG (n : Int) (d : Nat) : Nat := Nat.gcd n.natAbs d
def crN (n : Int) (d : Nat) : Int := n.tdiv (crG n d)
def crD (n : Int) (d : Nat) : Int := (d : Int).tdiv (crG n d)
theorem tdiv_bd (n : Int) (g : Nat) (b : Int) (h : -b ≤ n) (h2 : n ≤ b) : -b ≤ n.tdiv g ∧ n.tdiv g ≤ b := by
  have h3 : (n.tdiv g).natAbs = n.natAbs / g := by rw [Int.natAbs_tdiv]; rfl
  have h4 := Nat.div_le_self n.natAbs g
  omega
def nhOk (h : Int) : Bool := inB h (-2000) 130000
def nhR (h : Int) (fine : Bool) : Int := if nhOk h = true then (if fine = true then nhS h (-1000) 25 2047 else nhS h (-1200) 100 1279) else 0
theorem nhR_fine {h : Int} (hr : inB h (-2000) 130000 = true) : nhR h true = nhS h (-1000) 25 2047 := by unfold nhR nhOk; rw [hr]; rfl
theorem nhR_coarse {h : Int} (hr : inB h (-2000) 130000 = true) : nhR h false = nhS h (-1200) 100 1279 := by unfold nhR nhOk; rw [hr]; rfl
theorem nhR_no {h : Int} (fine : Bool) (hr : inB h (-2000) 130000 = false) : nhR h fine = 0 := by unfold nhR nhOk; rw [hr]; rfl
/-! ### for the loops over bits -/
theorem isBits_long {l : List UInt8} (h : 64 < l.length) : isBits l = false := by unfold isBits; rw [decide_eq_false (by omega)]; rfl
theorem isBits_bad {l : List UInt8} {k : Nat} (hk : k < l.length) (h : bitB (l[k]) = false) : isBits l = false := by
  unfold isBits; rw [all_false hk h, Bool.and_false]
theorem isBits_yes {l : List UInt8} (h : l.length ≤ 64) (h2 : l.all bitB = true) : isBits l = true := by unfold isBits; rw [h2, decide_eq_true h]; rfl
theorem isBits_iff {l : List UInt8} : isBits l = true ↔ l.length ≤ 64 ∧ l.all bitB = true := by unfold isBits; simp
theorem bit_at {l : List UInt8} (h : l.all bitB = true) {k : Nat} (hk : k < l.length) : bitB (l[k]) = true := List.all_eq_true.1 h _ (List.getElem_mem hk)
theorem onesL_snoc (l : List UInt8) (c : UInt8) : onesL (l ++ [c]) = onesL l + if c = 49 then 1 else 0 := by
  unfold onesL; rw [List.count_append, List.count_singleton]; simp
theorem onesL_le (l : List UInt8) : onesL l ≤ l.length := List.count_le_length
theorem numL_lt30 {l : List UInt8} (h : l.length ≤ 30) : numL l < 1073741824 := by
  have h1 := numL_lt l
  have h2 : 2 ^ l.length ≤ 2 ^ 30 := Nat.pow_le_pow_right (by omega) h
  have h3 : (2 : Nat) ^ 30 = 1073741824 := by decide
  omega
end Go.Proofs.Ytfbanjmooknafaa.P
