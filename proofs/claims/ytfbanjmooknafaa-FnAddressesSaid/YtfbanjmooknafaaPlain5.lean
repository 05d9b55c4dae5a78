/-
  Plain facts for the laws on lists of frames.
-/
import Derived.Test.YtfbanjmooknafaaPlain3
namespace Go.Proofs.Ytfbanjmooknafaa.P
set_option linter.unusedSimpArgs false
set_option linter.unusedVariables false
/-- an ascending list with one more number -/
def putI : List Int → Int → List Int
  | [], n => [n]
  | x :: t, n => if x < n then x :: putI t n else if x = n then x :: t else n :: x :: t
def asc (l : List Int) : Prop := l.Pairwise (· < ·)
theorem put_cut {n : Int} : ∀ {a b : List Int}, (∀ x ∈ a, x < n) → (∀ x ∈ b, n < x) → putI (a ++ b) n = a ++ n :: b := by
  intro a
  induction a with
  | nil =>
    intro b _ hb
    cases b with
    | nil => rfl
    | cons x t =>
      have h := hb x (by simp)
      simp only [List.nil_append, putI]
      rw [if_neg (by omega), if_neg (by omega)]
  | cons x t ih =>
    intro b ha hb
    have h := ha x (by simp)
    simp only [List.cons_append, putI]
    rw [if_pos h, ih (fun y hy => ha y (by simp [hy])) hb]
theorem put_eq {n : Int} : ∀ {a b : List Int}, (∀ x ∈ a, x < n) → putI (a ++ n :: b) n = a ++ n :: b := by
  intro a
  induction a with
  | nil =>
    intro b _
    show putI (n :: b) n = n :: b
    unfold putI
    rw [if_neg (Int.lt_irrefl n), if_pos rfl]
  | cons x t ih =>
    intro b ha
    have h := ha x (by simp)
    simp only [List.cons_append, putI]
    rw [if_pos h, ih (fun y hy => ha y (by simp [hy]))]
theorem mem_put {n y : Int} : ∀ {l : List Int}, y ∈ putI l n ↔ y = n ∨ y ∈ l := by
  intro l
  induction l with
  | nil => simp [putI]
  | cons x t ih =>
    unfold putI
    split
    · simp only [List.mem_cons, ih]
      constructor
      · rintro (h | h | h)
        · exact .inr (.inl h)
        · exact .inl h
        · exact .inr (.inr h)
      · rintro (h | h | h)
        · exact .inr (.inl h)
        · exact .inl h
        · exact .inr (.inr h)
    · split
      · rename_i h; subst h
        simp
      · simp
theorem asc_put {n : Int} : ∀ {l : List Int}, asc l → asc (putI l n) := by
  intro l
  induction l with
  | nil => intro _; simp [putI, asc]
  | cons x t ih =>
    intro h
    unfold asc at h ih ⊢
    rw [List.pairwise_cons] at h
    unfold putI
    split
    · rename_i hx
      rw [List.pairwise_cons]
      refine ⟨fun y hy => ?_, ih h.2⟩
      rcases mem_put.1 hy with rfl | hy
      · exact hx
      · exact h.1 y hy
    · split
      · rw [List.pairwise_cons]; exact h
      · rename_i h1 h2
        rw [List.pairwise_cons, List.pairwise_cons]
        refine ⟨fun y hy => ?_, h⟩
        rcases List.mem_cons.1 hy with rfl | hy
        · omega
        · have := h.1 y hy; omega
theorem put_len (n : Int) : ∀ l : List Int, (putI l n).length ≤ l.length + 1 := by
  intro l
  induction l with
  | nil => simp [putI]
  | cons x t ih =>
    unfold putI
    split
    · simp only [List.length_cons]; omega
    · split <;> simp
/-- the addresses of the first k frames -/
def adTo (as : List Int) : Nat → List Int
  | 0 => []
  | k + 1 => putI (adTo as k) (as.getD k 0)
theorem adTo_len (as : List Int) (k : Nat) : (adTo as k).length ≤ k := by
  induction k with
  | zero => simp [adTo]
  | succ k ih =>
    have := put_len (as.getD k 0) (adTo as k)
    unfold adTo; omega
theorem adTo_asc (as : List Int) (k : Nat) : asc (adTo as k) := by
  induction k with
  | zero => simp [adTo, asc]
  | succ k ih => unfold adTo; exact asc_put ih
theorem getD_at {as : List Int} {k : Nat} (h : k < as.length) : as.getD k 0 = as[k] := by rw [List.getD_eq_getElem?_getD, List.getElem?_eq_getElem h]; rfl
theorem mem_adTo {as : List Int} {y : Int} : ∀ {k : Nat}, k ≤ as.length → (y ∈ adTo as k ↔ y ∈ as.take k) := by
  intro k
  induction k with
  | zero => intro _; simp [adTo]
  | succ k ih =>
    intro hk
    unfold adTo
    rw [mem_put, ih (by omega), List.take_succ_eq_append_getElem (by omega), getD_at (by omega)]
    simp only [List.mem_append, List.mem_singleton]
    exact Or.comm
/-- the indices of an address in the first k frames -/
def foTo (as : List Int) (a : Int) : Nat → List Int
  | 0 => []
  | k + 1 => if as.getD k 0 = a then foTo as a k ++ [(k : Int)] else foTo as a k
theorem foTo_len {as : List Int} {a : Int} : ∀ {k : Nat}, k ≤ as.length → (foTo as a k).length = (as.take k).count a := by
  intro k
  induction k with
  | zero => intro _; simp [foTo]
  | succ k ih =>
    intro hk
    unfold foTo
    rw [List.take_succ_eq_append_getElem (by omega), List.count_append, ← ih (by omega), getD_at (by omega)]
    split
    · rename_i h; rw [h]; simp
    · rename_i h
      have : [as[k]].count a = 0 := by
        rw [List.count_eq_zero]; simp; exact fun e => h e.symm
      omega
theorem foTo_le (as : List Int) (a : Int) (k : Nat) : (foTo as a k).length ≤ k := by
  induction k with
  | zero => simp [foTo]
  | succ k ih =>
    unfold foTo
    split
    · simp; omega
    · omega
abbrev Fr := Int × Int × Int
def ads (fs : List Fr) : List Int := fs.map fun f => f.2.1
def fsOk (fs : List Fr) : Bool := decide (fs.length ≤ 20) && fs.all fun f => frB f.1 f.2.1 f.2.2
def foOk (fs : List Fr) (a : Int) : Bool := fsOk fs && inB a 1 65535
def foL (fs : List Fr) (a : Int) : List Int := if foOk fs a = true then foTo (ads fs) a fs.length else []
def aoL (fs : List Fr) : List Int := if fsOk fs = true then adTo (ads fs) fs.length else []
/-- how many frames the first k addresses have -/
def csTo (as L : List Int) : Nat → Nat
  | 0 => 0
  | k + 1 => csTo as L k + as.count (L.getD k 0)
theorem count_sum (y : Int) : ∀ {L : List Int}, asc L → y ∈ L → (L.map fun a => [y].count a).sum = 1 := by
  intro L
  induction L with
  | nil => intro _ h; cases h
  | cons x t ih =>
    intro ha hm
    unfold asc at ha ih
    rw [List.pairwise_cons] at ha
    rw [List.map_cons, List.sum_cons]
    rcases List.mem_cons.1 hm with rfl | h
    · have hz : (t.map fun a => [y].count a).sum = 0 := by
        have : ∀ (s : List Int), (∀ z ∈ s, y < z) → (s.map fun a => [y].count a).sum = 0 := by
          intro s
          induction s with
          | nil => intro _; rfl
          | cons z s ihs =>
            intro hs
            rw [List.map_cons, List.sum_cons, ihs (fun u hu => hs u (by simp [hu]))]
            have hz := hs z (by simp)
            have : [y].count z = 0 := by rw [List.count_eq_zero]; simp; omega
            omega
        exact this t ha.1
      rw [hz]; simp
    · have hx := ha.1 y h
      have : [y].count x = 0 := by rw [List.count_eq_zero]; simp; omega
      rw [this, ih ha.2 h]
theorem sum_add (f g : Int → Nat) : ∀ L : List Int, (L.map fun a => f a + g a).sum = (L.map f).sum + (L.map g).sum := by
  intro L
  induction L with
  | nil => rfl
  | cons x t ih => simp only [List.map_cons, List.sum_cons, ih]; omega
theorem sum_count {L : List Int} (ha : asc L) : ∀ {as : List Int}, (∀ y ∈ as, y ∈ L) → (L.map fun a => as.count a).sum = as.length := by
  intro as
  induction as with
  | nil =>
    intro _
    have : ∀ s : List Int, (s.map fun a => ([] : List Int).count a).sum = 0 := by
      intro s
      induction s with
      | nil => rfl
      | cons x t ih => rw [List.map_cons, List.sum_cons, ih]; simp
    exact this L
  | cons y t ih =>
    intro h
    have e : (L.map fun a => (y :: t).count a) = L.map fun a => [y].count a + t.count a := by
      apply List.map_congr_left
      intro a _
      rw [show y :: t = [y] ++ t from rfl, List.count_append]
    rw [e, sum_add (fun a => [y].count a) (fun a => t.count a), count_sum y ha (h y (by simp)), ih (fun z hz => h z (by simp [hz]))]
    simp; omega
theorem csTo_sum (as L : List Int) : ∀ k : Nat, k ≤ L.length → csTo as L k = ((L.take k).map fun a => as.count a).sum := by
  intro k
  induction k with
  | zero => intro _; simp [csTo]
  | succ k ih =>
    intro hk
    rw [csTo, ih (by omega), List.take_succ_eq_append_getElem (by omega), List.map_append, List.sum_append, getD_at (by omega)]
    simp
theorem ads_len (fs : List Fr) : (ads fs).length = fs.length := by simp [ads]
/-- every frame of a list belongs to one of its addresses -/
theorem ao_law {fs : List Fr} (h : fsOk fs = true) : csTo (ads fs) (aoL fs) (aoL fs).length = fs.length ∧ (aoL fs).length ≤ 20 ∧ fs.length ≤ 20 ∧
    ∀ k (hk : k < (aoL fs).length), foOk fs (aoL fs)[k] = true ∧ (foL fs (aoL fs)[k]).length = (ads fs).count ((aoL fs).getD k 0) ∧ 0 < (ads fs).count ((aoL fs).getD k 0) ∧ (ads fs).count ((aoL fs).getD k 0) ≤ 20 := by
  have h0 := h
  unfold fsOk at h0
  rw [Bool.and_eq_true, decide_eq_true_eq] at h0
  have e : aoL fs = adTo (ads fs) fs.length := by unfold aoL; rw [if_pos h]
  have hl := ads_len fs
  have hm : ∀ y, y ∈ aoL fs ↔ y ∈ ads fs := fun y => by
    rw [e, mem_adTo (by omega), List.take_of_length_le (by omega)]
  have hle : (aoL fs).length ≤ fs.length := by rw [e]; exact adTo_len _ _
  refine ⟨?_, by omega, h0.1, fun k hk => ?_⟩
  · rw [csTo_sum _ _ _ (Nat.le_refl _), List.take_of_length_le (Nat.le_refl _), ← hl]
    exact sum_count (by rw [e]; exact adTo_asc _ _) (fun y hy => (hm y).2 hy)
  · have hmem := (hm _).1 (List.getElem_mem hk)
    have hb : inB (aoL fs)[k] 1 65535 = true := by
      unfold ads at hmem
      obtain ⟨f, hf, hfe⟩ := List.mem_map.1 hmem
      have := List.all_eq_true.1 h0.2 f hf
      rw [← hfe]
      unfold frB at this
      rw [Bool.and_eq_true, Bool.and_eq_true] at this
      exact this.1.2
    have ho : foOk fs (aoL fs)[k] = true := by unfold foOk; rw [h, hb]; rfl
    have hf : (foL fs (aoL fs)[k]).length = (ads fs).count ((aoL fs).getD k 0) := by
      unfold foL
      rw [if_pos ho, foTo_len (by omega), List.take_of_length_le (by omega), getD_at hk]
    refine ⟨ho, hf, ?_, ?_⟩
    · rw [getD_at hk]; exact List.count_pos_iff.2 hmem
    · have := List.count_le_length (a := (aoL fs).getD k 0) (l := ads fs)
      omega
end Go.Proofs.Ytfbanjmooknafaa.P
