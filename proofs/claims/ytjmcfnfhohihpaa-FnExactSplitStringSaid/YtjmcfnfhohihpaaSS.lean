/-
  Contracts of SplitString and the walk of its law.
-/
import Derived.Test.YtjmcfnfhohihpaaS
import Derived.Test.YtjmcfnfhohihpaaM
namespace Go.Proofs.Ytjmcfnfhohihpaa
open Go.RowKit
set_option linter.unusedSimpArgs false
set_option linter.unusedVariables false

theorem ss_long {s sep : ByteArray} (h : 4000 < s.size) : P.ssOk (B s) (B sep) = false := by unfold P.ssOk; rw [B_len, decide_eq_false (by omega)]; rfl
theorem ss_sep {s sep : ByteArray} (h : sep.size ≠ 1) : P.ssOk (B s) (B sep) = false := by unfold P.ssOk; rw [B_len, B_len, decide_eq_false (p := sep.size = 1) h, Bool.and_false]
theorem ss_yes {s sep : ByteArray} (h : ¬ 4000 < s.size) (h1 : sep.size = 1) : P.ssOk (B s) (B sep) = true := by unfold P.ssOk; rw [B_len, B_len, decide_eq_true h1, decide_eq_true (by omega)]; rfl
theorem ssL_no {s sep : List UInt8} (h : P.ssOk s sep = false) : P.ssL s sep = [] := by unfold P.ssL; rw [h]; rfl
theorem ssL_yes {s sep : ByteArray} (h : P.ssOk (B s) (B sep) = true) (h1 : 0 < sep.size) : P.ssL (B s) (B sep) = P.spl (sep[0]'h1) (B s) := by
  unfold P.ssL; rw [h, if_pos rfl]; congr 1
  have := B_head sep h1
  cases hb : B sep with
  | nil => rw [hb] at this; simp at this
  | cons a t => rw [hb] at this; simp at this; rw [this]; rfl
theorem ret_rowb {T : TypeId} {w w' : World} {A : Option Addr} {n cap : Nat} {l : List Value} {b b' : Bool} (hn : n = l.length) (hb' : b = b') (hown : w'.ownsRow w.heap.size T 1 (.slice A n cap) n l) (hb : Below w.heap.size w w') :
    RetRowB T w l b' (.returned (.tuple #[.slice A n cap, .bool b])) w' := by
  subst hn hb'
  exact ⟨A, cap, rfl, hown, hb⟩
theorem c_implSplitString (s sep : ByteArray) (w : World) (hs : s.size ≤ 2097152) (hs2 : sep.size ≤ 2097152) : Calls Try.prog 24 #[.string s, .string sep] w (RetRowB 9 w ((P.ssL (B s) (B sep)).map vs) (P.ssOk (B s) (B sep))) := by
  by_cases h4 : 4000 < s.size
  · have HF := Lib.hid (ss_long (sep := sep) h4)
    have HL := Lib.hid (ssL_no HF.out)
    by_cases h1 : sep.size = 1
    · have h1' : ((sep.size : Int) != 1) = false := by rw [bne_eq_false_iff_eq]; omega
      clear h1
      go_enter Try.func24, Try.ntmps24
      go_wp2
      go_ret2
      exact ret_rowb (by rw [HL.out]; rfl) HF.out.symm (by rw [HL.out]; exact World.ownsRow_nil _ _ _ _) (Below.refl _ _)
    · have h1' : ((sep.size : Int) != 1) = true := by rw [bne_iff_ne]; omega
      clear h1
      go_enter Try.func24, Try.ntmps24
      go_wp2
      go_ret2
      exact ret_rowb (by rw [HL.out]; rfl) HF.out.symm (by rw [HL.out]; exact World.ownsRow_nil _ _ _ _) (Below.refl _ _)
  · by_cases h1 : sep.size = 1
    · have HF := Lib.hid (ss_yes h4 h1)
      have h1p : 0 < sep.size := by omega
      have HL := Lib.hid (ssL_yes HF.out h1p)
      have h1' : ((sep.size : Int) != 1) = false := by rw [bne_eq_false_iff_eq]; omega
      obtain ⟨b, hb⟩ : ∃ b, sep[0]'h1p = b := ⟨_, rfl⟩
      have HB := Lib.hid hb
      clear h1
      go_enter Try.func24, Try.ntmps24
      go_wp2_with (go_at_call 51; refine (c_split s b _ hs).mono ?_; rintro e w' ⟨g, cap, rfl, hown, hbl⟩; simp only [List.length_map] at hown; have HO := Lib.hid hown; clear hown)
      go_ret2
      exact ret_rowb (by rw [HL.out, HB.out, List.length_map]) HF.out.symm (by rw [HL.out, HB.out]; exact HO.out) hbl
    · have HF := Lib.hid (ss_sep (s := s) h1)
      have HL := Lib.hid (ssL_no HF.out)
      have h1' : ((sep.size : Int) != 1) = true := by rw [bne_iff_ne]; omega
      clear h1
      go_enter Try.func24, Try.ntmps24
      go_wp2
      go_ret2
      exact ret_rowb (by rw [HL.out]; rfl) HF.out.symm (by rw [HL.out]; exact World.ownsRow_nil _ _ _ _) (Below.refl _ _)
theorem c_specSplitString (s sep : ByteArray) (w : World) (hs : s.size ≤ 2097152) (hs2 : sep.size ≤ 2097152) : Calls Try.prog 23 #[.string s, .string sep] w (RetRowB 9 w ((P.ssL (B s) (B sep)).map vs) (P.ssOk (B s) (B sep))) := by
  by_cases h4 : 4000 < s.size
  · have HF := Lib.hid (ss_long (sep := sep) h4)
    have HL := Lib.hid (ssL_no HF.out)
    by_cases h1 : sep.size = 1
    · have h1' : ((sep.size : Int) != 1) = false := by rw [bne_eq_false_iff_eq]; omega
      clear h1
      go_enter Try.func23, Try.ntmps23
      go_wp2
      go_ret2
      exact ret_rowb (by rw [HL.out]; rfl) HF.out.symm (by rw [HL.out]; exact World.ownsRow_made _ _ _ (Nat.le_refl _) (by unfold maxLen; omega) rfl) ((Below.refl _ _).alloc (Nat.le_refl _) _)
    · have h1' : ((sep.size : Int) != 1) = true := by rw [bne_iff_ne]; omega
      clear h1
      go_enter Try.func23, Try.ntmps23
      go_wp2
      go_ret2
      exact ret_rowb (by rw [HL.out]; rfl) HF.out.symm (by rw [HL.out]; exact World.ownsRow_made _ _ _ (Nat.le_refl _) (by unfold maxLen; omega) rfl) ((Below.refl _ _).alloc (Nat.le_refl _) _)
  · by_cases h1 : sep.size = 1
    · have HF := Lib.hid (ss_yes h4 h1)
      have h1p : 0 < sep.size := by omega
      have HL := Lib.hid (ssL_yes HF.out h1p)
      have h1' : ((sep.size : Int) != 1) = false := by rw [bne_eq_false_iff_eq]; omega
      obtain ⟨b, hb⟩ : ∃ b, sep[0]'h1p = b := ⟨_, rfl⟩
      have HB := Lib.hid hb
      clear h1
      go_enter Try.func23, Try.ntmps23
      go_wp2_with (go_at_call 50; refine (c_l1Split s b _ hs).mono ?_; rintro e w' ⟨g, cap, rfl, hown, hbl⟩; simp only [List.length_map] at hown; have HO := Lib.hid hown; clear hown)
      go_ret2
      exact ret_rowb (by rw [HL.out, HB.out, List.length_map]) HF.out.symm (by rw [HL.out, HB.out]; exact HO.out) hbl
    · have HF := Lib.hid (ss_sep (s := s) h1)
      have HL := Lib.hid (ssL_no HF.out)
      have h1' : ((sep.size : Int) != 1) = true := by rw [bne_iff_ne]; omega
      clear h1
      go_enter Try.func23, Try.ntmps23
      go_wp2
      go_ret2
      exact ret_rowb (by rw [HL.out]; rfl) HF.out.symm (by rw [HL.out]; exact World.ownsRow_made _ _ _ (Nat.le_refl _) (by unfold maxLen; omega) rfl) ((Below.refl _ _).alloc (Nat.le_refl _) _)
theorem spl_short (b : UInt8) (l : List UInt8) : (P.spl b l).length ≤ l.length + 1 := by
  rw [P.spl_len]; have := List.count_le_length (a := b) (l := l); omega
theorem ssL_short (s sep : List UInt8) : (P.ssL s sep).length ≤ s.length + 1 := by
  unfold P.ssL; split
  · exact spl_short _ _
  · simp
theorem only_none {a w w1 : World} {row : Option Nat} (h : Below a.heap.size a w) (hg : w.grownBy w1 row) (hr : ∀ g, row = some g → a.heap.size ≤ g) : Below a.heap.size a w1 := h.grown hg h.size hr
theorem apart_rows {w1 w2 : World} {base T T' n n' : Nat} {v v' : Value} {xs ys : List Value} (h : w1.ownsRow base T 1 v n xs) (h' : w2.ownsRow w1.heap.size T' 1 v' n' ys) : v.ownBlock = Option.none ∨ v.ownBlock ≠ v'.ownBlock := by
  cases hv : v.ownBlock with
  | none => exact .inl rfl
  | some g =>
    right
    intro e
    have h1 := (h.lt g hv).2
    have h2 := (h'.lt g e.symm).1
    omega
theorem l_FnExactSplitString (s t : ByteArray) (hs : s.size ≤ maxLen) (ht : t.size ≤ maxLen) (w : World) : Calls Try.prog 8 #[.string s, .string t] w fun e w' => e = .returned (.bool true) ∧ Below w.heap.size w w' := by
  have hs' := hs
  have ht' := ht
  unfold maxLen at hs' ht'
  by_cases h : s.size ≤ 1048576
  · by_cases h2 : t.size ≤ 1048576
    · have hsh := ssL_short (B s) (B t)
      rw [B_len] at hsh
      obtain ⟨l, hl⟩ : ∃ l, P.ssL (B s) (B t) = l := ⟨_, rfl⟩
      rw [hl] at hsh
      go_enter Try.func8, Try.ntmps8
      go_wp2_with fail
      refine (c_specSplitString s t _ (by omega) (by omega)).mono ?_
      rintro e w1 ⟨A1, c1, rfl, hown1, hb1⟩
      rw [hl] at hown1 ⊢
      simp only [List.length_map] at hown1 ⊢
      have HO1 := Lib.hid hown1
      clear hown1
      go_wp2_with fail
      refine (c_implSplitString s t _ (by omega) (by omega)).mono ?_
      rintro e w2 ⟨A2, c2, rfl, hown2, hb2⟩
      rw [hl] at hown2 ⊢
      simp only [List.length_map] at hown2 ⊢
      have HO2 := Lib.hid hown2
      clear hown2
      have HO1' := Lib.hid (own_below HO1.out hb2)
      go_wp2_with fail
      refine (c_eqStringS A2 A1 c2 c1 l _ (holds_own HO2.out) (holds_own HO1'.out) (by omega)).mono ?_
      rintro e w3 ⟨rfl, hq3⟩
      have hb3 := hq3.below w2.heap.size
      have HO2b := Lib.hid (own_below HO2.out hb3)
      have HO1b := Lib.hid (own_below HO1'.out hb3)
      have hne : (Value.slice A1 l.length c1).ownBlock = Option.none ∨ (Value.slice A1 l.length c1).ownBlock ≠ (Value.slice A2 l.length c2).ownBlock := apart_rows HO1.out HO2.out
      have HNE := Lib.hid hne
      clear hne hq3
      go_wp2_with fail
      refine (c_markS1 A2 l.length c2 _ _ _ HO2b.out (by omega)).mono ?_
      rintro e w4 ⟨rfl, hown4, hg4⟩
      have hb4 : Below w.heap.size w w4 := only_none (hb1.trans ((hb2.trans (hb3.mono hb2.size)).mono hb1.size)) hg4 (fun g hg => Nat.le_trans hb1.size (HO2b.out.lt g hg).1)
      have HO4 := Lib.hid hown4
      have HO1c := Lib.hid (HO1b.out.kept hg4 HNE.out)
      clear hown4 hg4
      go_wp2_with fail
      refine (c_heldS1 A2 l.length c2 _ _ HO4.out (by omega)).mono ?_
      rintro e w5 ⟨rfl, hb5⟩
      have HO4b := Lib.hid (own_below HO4.out hb5)
      have HO1d := Lib.hid (own_below HO1c.out hb5)
      go_wp2_with fail
      refine (c_implSplitString s t _ (by omega) (by omega)).mono ?_
      rintro e w6 ⟨A6, c6, rfl, hown6, hb6⟩
      rw [hl] at hown6 ⊢
      simp only [List.length_map] at hown6 ⊢
      have HO6 := Lib.hid hown6
      have HO4c := Lib.hid (own_below HO4b.out hb6)
      have HO1e := Lib.hid (own_below HO1d.out hb6)
      clear hown6
      go_wp2_with fail
      refine (c_eqStringS A6 A1 c6 c1 l _ (holds_own HO6.out) (holds_own HO1e.out) (by omega)).mono ?_
      rintro e w7 ⟨rfl, hq7⟩
      have hb7 := hq7.below w6.heap.size
      have HO4d := Lib.hid (own_below HO4c.out hb7)
      clear hq7
      go_wp2_with fail
      refine (c_heldS1 A2 l.length c2 _ _ HO4d.out (by omega)).mono ?_
      rintro e w8 ⟨rfl, hb8⟩
      go_wp2
      go_ret
      have z4 := hb4.size
      have z5 := hb5.size
      have z6 := hb6.size
      have z7 := hb7.size
      exact ⟨rfl, hb4.trans ((hb5.trans ((hb6.trans ((hb7.trans (hb8.mono z7)).mono z6)).mono z5)).mono z4)⟩
    · go_enter Try.func8, Try.ntmps8
      go_wp2
      go_ret
      exact ⟨rfl, Below.refl _ _⟩
  · go_enter Try.func8, Try.ntmps8
    go_wp2
    go_ret
    exact ⟨rfl, Below.refl _ _⟩
end Go.Proofs.Ytjmcfnfhohihpaa
