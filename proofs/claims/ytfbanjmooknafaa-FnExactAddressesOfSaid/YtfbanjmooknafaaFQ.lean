/-
  The walks of the laws on FramesOf and AddressesOf; how a slice of structs of three integers reads.
-/
import Derived.Test.YtfbanjmooknafaaFP
import Derived.Test.YtfbanjmooknafaaF
namespace Go.Proofs.Ytfbanjmooknafaa
open Go.RowKit
set_option linter.unusedSimpArgs false
set_option linter.unusedVariables false
set_option maxRecDepth 100000

theorem rowi_of {w w' : World} {L : List Int} {o : Bool} {e : Ending} (h : RetRowB 3 w (vi L) o e w') : ∃ A cap, e = .returned (.tuple #[.slice A L.length cap, .bool o]) ∧ w'.ownsRow w.heap.size 3 1 (.slice A L.length cap) L.length (vi L) ∧ Below w.heap.size w w' := by
  obtain ⟨A, cap, h1, h2, h3⟩ := h
  rw [vi_len] at h1 h2
  exact ⟨A, cap, h1, h2, h3⟩
theorem apart_rowsN {w1 w2 : World} {base B T T' s s' n n' : Nat} {v v' : Value} {xs ys : List Value} (h : w1.ownsRow base T s v n xs) (h' : w2.ownsRow B T' s' v' n' ys) (hB : w1.heap.size ≤ B) : v.ownBlock = Option.none ∨ v.ownBlock ≠ v'.ownBlock := by
  cases hv : v.ownBlock with
  | none => exact .inl rfl
  | some g =>
    right
    intro e
    have h1 := (h.lt g hv).2
    have h2 := (h'.lt g e.symm).1
    omega
theorem apart_flip {w1 w2 : World} {base B T T' s s' n n' : Nat} {v v' : Value} {xs ys : List Value} (h : w1.ownsRow base T s v n xs) (h' : w2.ownsRow B T' s' v' n' ys) (hB : w1.heap.size ≤ B) : v'.ownBlock = Option.none ∨ v'.ownBlock ≠ v.ownBlock := by
  cases hv : v'.ownBlock with
  | none => exact .inl rfl
  | some g =>
    right
    intro e
    have h1 := (h'.lt g hv).1
    have h2 := (h.lt g e.symm).2
    omega
theorem fo_len {fs : List P.Fr} (a : Int) : (P.foL fs a).length ≤ fs.length := by
  unfold P.foL
  split
  · exact P.foTo_le _ _ _
  · simp
theorem ao_len (fs : List P.Fr) : (P.aoL fs).length ≤ fs.length := by
  unfold P.aoL
  split
  · exact P.adTo_len _ _
  · simp
theorem below_keep {w W w1 : World} {g : Nat} (hb : Below w.heap.size w W) (hg : W.grownBy w1 (some g)) (h : w.heap.size ≤ g) : Below w.heap.size w w1 := hb.grown hg hb.size (fun k hk => by injection hk with hk; omega)
theorem below_keepR {w W w1 : World} {v : Value} {base T n : Nat} {xs : List Value} (hb : Below w.heap.size w W) (hown : W.ownsRow base T 1 v n xs) (hg : W.grownBy w1 v.ownBlock) (h : w.heap.size ≤ base) : Below w.heap.size w w1 := hb.grown hg hb.size (fun k hk => Nat.le_trans h (hown.lt k hk).1)
set_option maxHeartbeats 2000000 in
theorem l_FnExactFramesOf (A : Option Addr) (n c : Nat) (fs : List P.Fr) (a : Int) (w : World) (hl : fs.length = n) (hm : n ≤ maxLen) (h : Holds w A (fcs fs)) (hwf : (Lit.int .i64 a).wf = true) : Calls Try.prog 13 #[.slice A n c, .int .i64 a] w fun e w' => e = .returned (.bool true) ∧ Below w.heap.size w w' := by
  have hm' := hm
  unfold maxLen at hm'
  by_cases hn : n ≤ 1048576
  · have HL := Lib.hid hl
    have HM := Lib.hid hm
    have HH := Lib.hid h
    obtain ⟨L, hL⟩ : ∃ L, (P.foL fs a) = L := ⟨_, rfl⟩
    obtain ⟨ok, hok⟩ : ∃ ok, (P.foOk fs a) = ok := ⟨_, rfl⟩
    have hLl : L.length ≤ 1048576 := by
      have := (fo_len (fs := fs) a)
      rw [hL] at this; omega
    clear h hm hm'
    go_enter Try.func13, Try.ntmps13
    go_wp2_with fail
    refine (c_szFrameS A n c _ hn).mono ?_
    rintro e w' ⟨rfl, rfl⟩
    go_wp2_with fail
    refine (c_toFrameS A n c fs _ HL.out hn HH.out).mono ?_
    rintro e w1 ⟨rfl, hown1, hb1⟩
    have HX1 := Lib.hid (holds_ownN hown1)
    clear hown1
    go_wp2_with fail
    refine (c_specFramesOf _ n _ fs a _ HL.out HM.out HX1.out).mono ?_
    rintro e w2 hr
    rw [hL, hok] at hr
    obtain ⟨A2, c2, rfl, hown2, hb2⟩ := rowi_of hr
    have HW := Lib.hid hown2
    have hB2 := hb1.trans (hb2.mono hb1.size)
    clear hr hown2
    go_wp2_with fail
    refine (c_toFrameS A n c fs _ HL.out hn (holds_belowF HH.out hB2)).mono ?_
    rintro e w3 ⟨rfl, hown3, hb3⟩
    have HX3 := Lib.hid hown3
    have HW3 := Lib.hid (own_below HW.out hb3)
    have hB3 := hB2.trans (hb3.mono hB2.size)
    clear hown3
    go_wp2_with fail
    refine (c_implFramesOf _ n _ fs a _ HL.out HM.out (holds_ownN HX3.out)).mono ?_
    rintro e w4 hr
    rw [hL, hok] at hr
    obtain ⟨A4, c4, rfl, hown4, hb4⟩ := rowi_of hr
    have HG4 := Lib.hid hown4
    have HX4 := Lib.hid (own_belowN HX3.out hb4)
    have HW4 := Lib.hid (own_below HW3.out hb4)
    have hB4 := hB3.trans (hb4.mono hB3.size)
    clear hr hown4
    go_wp2_with fail
    refine (c_eqIntS A4 A2 c4 c2 L _ (holds_own HG4.out) (holds_own HW4.out) (by omega)).mono ?_
    rintro e w5 ⟨rfl, hq5⟩
    have hb5 := hq5.below w4.heap.size
    have HG5 := Lib.hid (own_below HG4.out hb5)
    have HX5 := Lib.hid (own_belowN HX4.out hb5)
    have HW5 := Lib.hid (own_below HW4.out hb5)
    have hB5 := hB4.trans (hb5.mono hB4.size)
    clear hq5
    go_wp2_with fail
    refine (c_toFrameS A n c fs _ HL.out hn (holds_belowF HH.out hB5)).mono ?_
    rintro e w6 ⟨rfl, hown6, hb6⟩
    have HG6 := Lib.hid (own_below HG5.out hb6)
    have HX6 := Lib.hid (own_belowN HX5.out hb6)
    have HW6 := Lib.hid (own_below HW5.out hb6)
    have HY6 := Lib.hid hown6
    have hB6 := hB5.trans (hb6.mono hB5.size)
    clear hown6
    go_wp2_with fail
    refine (c_eqFrameS _ _ n _ _ fs _ HL.out (holds_ownN HX6.out) (holds_ownN HY6.out) hn).mono ?_
    rintro e w7 ⟨rfl, hb7⟩
    have HG7 := Lib.hid (own_below HG6.out hb7)
    have HX7 := Lib.hid (own_belowN HX6.out hb7)
    have HW7 := Lib.hid (own_below HW6.out hb7)
    have hB7 := hB6.trans (hb7.mono hB6.size)
    go_wp2_with fail
    refine (c_markFrameS _ n _ _ _ _ _ HX7.out hn).mono ?_
    rintro e w8 ⟨rfl, hg8⟩
    have HG8 := Lib.hid (HG7.out.kept hg8 (apart_flip HX3.out HG4.out (Nat.le_refl _)))
    have HW8 := Lib.hid (HW7.out.kept hg8 (apart_rowsN HW.out HX3.out (Nat.le_refl _)))
    have hB8 := below_keep hB7 hg8 hB2.size
    go_wp2_with fail
    refine (c_eqIntS A4 A2 c4 c2 L _ (holds_own HG8.out) (holds_own HW8.out) (by omega)).mono ?_
    rintro e w9 ⟨rfl, hq9⟩
    have hb9 := hq9.below w8.heap.size
    have HG9 := Lib.hid (own_below HG8.out hb9)
    have HW9 := Lib.hid (own_below HW8.out hb9)
    have hB9 := hB8.trans (hb9.mono hB8.size)
    clear hq9
    go_wp2_with fail
    refine (c_markIntS A4 L.length c4 _ _ _ HG9.out (by omega)).mono ?_
    rintro e w10 ⟨rfl, hown10, hg10⟩
    have HG10 := Lib.hid hown10
    have HW10 := Lib.hid (HW9.out.kept hg10 (apart_rowsN HW3.out HG4.out (Nat.le_refl _)))
    have hB10 := below_keepR hB9 HG9.out hg10 hB3.size
    clear hown10
    go_wp2_with fail
    refine (c_heldIntS A4 L.length c4 _ _ HG10.out (by omega)).mono ?_
    rintro e w' ⟨rfl, rfl⟩
    go_wp2_with fail
    refine (c_toFrameS A n c fs _ HL.out hn (holds_belowF HH.out hB10)).mono ?_
    rintro e w11 ⟨rfl, hown11, hb11⟩
    have HX11 := Lib.hid (holds_ownN hown11)
    have HG11 := Lib.hid (own_below HG10.out hb11)
    have HW11 := Lib.hid (own_below HW10.out hb11)
    have hB11 := hB10.trans (hb11.mono hB10.size)
    clear hown11
    go_wp2_with fail
    refine (c_implFramesOf _ n _ fs a _ HL.out HM.out HX11.out).mono ?_
    rintro e w12 hr
    rw [hL, hok] at hr
    obtain ⟨A12, c12, rfl, hown12, hb12⟩ := rowi_of hr
    have HG12 := Lib.hid (own_below HG11.out hb12)
    have HW12 := Lib.hid (own_below HW11.out hb12)
    have HH12 := Lib.hid hown12
    have hB12 := hB11.trans (hb12.mono hB11.size)
    clear hr hown12
    go_wp2_with fail
    refine (c_eqIntS A12 A2 c12 c2 L _ (holds_own HH12.out) (holds_own HW12.out) (by omega)).mono ?_
    rintro e w13 ⟨rfl, hq13⟩
    have hb13 := hq13.below w12.heap.size
    have HG13 := Lib.hid (own_below HG12.out hb13)
    have hB13 := hB12.trans (hb13.mono hB12.size)
    clear hq13
    go_wp2_with fail
    refine (c_heldIntS A4 L.length c4 _ _ HG13.out (by omega)).mono ?_
    rintro e w' ⟨rfl, rfl⟩
    go_wp2
    go_ret
    exact ⟨rfl, hB13⟩
  · clear h hl hm
    go_enter Try.func13, Try.ntmps13
    go_wp2_with fail
    refine (c_szFrameL A n c _ hn (by omega)).mono ?_
    rintro e w' ⟨rfl, rfl⟩
    go_wp2
    go_ret
    exact ⟨rfl, Below.refl _ _⟩
set_option maxHeartbeats 2000000 in
theorem l_FnExactAddressesOf (A : Option Addr) (n c : Nat) (fs : List P.Fr)  (w : World) (hl : fs.length = n) (hm : n ≤ maxLen) (h : Holds w A (fcs fs))  : Calls Try.prog 14 #[.slice A n c ] w fun e w' => e = .returned (.bool true) ∧ Below w.heap.size w w' := by
  have hm' := hm
  unfold maxLen at hm'
  by_cases hn : n ≤ 1048576
  · have HL := Lib.hid hl
    have HM := Lib.hid hm
    have HH := Lib.hid h
    obtain ⟨L, hL⟩ : ∃ L, (P.aoL fs) = L := ⟨_, rfl⟩
    obtain ⟨ok, hok⟩ : ∃ ok, (P.fsOk fs) = ok := ⟨_, rfl⟩
    have hLl : L.length ≤ 1048576 := by
      have := (ao_len fs)
      rw [hL] at this; omega
    clear h hm hm'
    go_enter Try.func14, Try.ntmps14
    go_wp2_with fail
    refine (c_szFrameS A n c _ hn).mono ?_
    rintro e w' ⟨rfl, rfl⟩
    go_wp2_with fail
    refine (c_toFrameS A n c fs _ HL.out hn HH.out).mono ?_
    rintro e w1 ⟨rfl, hown1, hb1⟩
    have HX1 := Lib.hid (holds_ownN hown1)
    clear hown1
    go_wp2_with fail
    refine (c_specAddressesOf _ n _ fs   _ HL.out HM.out HX1.out).mono ?_
    rintro e w2 hr
    rw [hL, hok] at hr
    obtain ⟨A2, c2, rfl, hown2, hb2⟩ := rowi_of hr
    have HW := Lib.hid hown2
    have hB2 := hb1.trans (hb2.mono hb1.size)
    clear hr hown2
    go_wp2_with fail
    refine (c_toFrameS A n c fs _ HL.out hn (holds_belowF HH.out hB2)).mono ?_
    rintro e w3 ⟨rfl, hown3, hb3⟩
    have HX3 := Lib.hid hown3
    have HW3 := Lib.hid (own_below HW.out hb3)
    have hB3 := hB2.trans (hb3.mono hB2.size)
    clear hown3
    go_wp2_with fail
    refine (c_implAddressesOf _ n _ fs   _ HL.out HM.out (holds_ownN HX3.out)).mono ?_
    rintro e w4 hr
    rw [hL, hok] at hr
    obtain ⟨A4, c4, rfl, hown4, hb4⟩ := rowi_of hr
    have HG4 := Lib.hid hown4
    have HX4 := Lib.hid (own_belowN HX3.out hb4)
    have HW4 := Lib.hid (own_below HW3.out hb4)
    have hB4 := hB3.trans (hb4.mono hB3.size)
    clear hr hown4
    go_wp2_with fail
    refine (c_eqIntS A4 A2 c4 c2 L _ (holds_own HG4.out) (holds_own HW4.out) (by omega)).mono ?_
    rintro e w5 ⟨rfl, hq5⟩
    have hb5 := hq5.below w4.heap.size
    have HG5 := Lib.hid (own_below HG4.out hb5)
    have HX5 := Lib.hid (own_belowN HX4.out hb5)
    have HW5 := Lib.hid (own_below HW4.out hb5)
    have hB5 := hB4.trans (hb5.mono hB4.size)
    clear hq5
    go_wp2_with fail
    refine (c_toFrameS A n c fs _ HL.out hn (holds_belowF HH.out hB5)).mono ?_
    rintro e w6 ⟨rfl, hown6, hb6⟩
    have HG6 := Lib.hid (own_below HG5.out hb6)
    have HX6 := Lib.hid (own_belowN HX5.out hb6)
    have HW6 := Lib.hid (own_below HW5.out hb6)
    have HY6 := Lib.hid hown6
    have hB6 := hB5.trans (hb6.mono hB5.size)
    clear hown6
    go_wp2_with fail
    refine (c_eqFrameS _ _ n _ _ fs _ HL.out (holds_ownN HX6.out) (holds_ownN HY6.out) hn).mono ?_
    rintro e w7 ⟨rfl, hb7⟩
    have HG7 := Lib.hid (own_below HG6.out hb7)
    have HX7 := Lib.hid (own_belowN HX6.out hb7)
    have HW7 := Lib.hid (own_below HW6.out hb7)
    have hB7 := hB6.trans (hb7.mono hB6.size)
    go_wp2_with fail
    refine (c_markFrameS _ n _ _ _ _ _ HX7.out hn).mono ?_
    rintro e w8 ⟨rfl, hg8⟩
    have HG8 := Lib.hid (HG7.out.kept hg8 (apart_flip HX3.out HG4.out (Nat.le_refl _)))
    have HW8 := Lib.hid (HW7.out.kept hg8 (apart_rowsN HW.out HX3.out (Nat.le_refl _)))
    have hB8 := below_keep hB7 hg8 hB2.size
    go_wp2_with fail
    refine (c_eqIntS A4 A2 c4 c2 L _ (holds_own HG8.out) (holds_own HW8.out) (by omega)).mono ?_
    rintro e w9 ⟨rfl, hq9⟩
    have hb9 := hq9.below w8.heap.size
    have HG9 := Lib.hid (own_below HG8.out hb9)
    have HW9 := Lib.hid (own_below HW8.out hb9)
    have hB9 := hB8.trans (hb9.mono hB8.size)
    clear hq9
    go_wp2_with fail
    refine (c_markIntS A4 L.length c4 _ _ _ HG9.out (by omega)).mono ?_
    rintro e w10 ⟨rfl, hown10, hg10⟩
    have HG10 := Lib.hid hown10
    have HW10 := Lib.hid (HW9.out.kept hg10 (apart_rowsN HW3.out HG4.out (Nat.le_refl _)))
    have hB10 := below_keepR hB9 HG9.out hg10 hB3.size
    clear hown10
    go_wp2_with fail
    refine (c_heldIntS A4 L.length c4 _ _ HG10.out (by omega)).mono ?_
    rintro e w' ⟨rfl, rfl⟩
    go_wp2_with fail
    refine (c_toFrameS A n c fs _ HL.out hn (holds_belowF HH.out hB10)).mono ?_
    rintro e w11 ⟨rfl, hown11, hb11⟩
    have HX11 := Lib.hid (holds_ownN hown11)
    have HG11 := Lib.hid (own_below HG10.out hb11)
    have HW11 := Lib.hid (own_below HW10.out hb11)
    have hB11 := hB10.trans (hb11.mono hB10.size)
    clear hown11
    go_wp2_with fail
    refine (c_implAddressesOf _ n _ fs   _ HL.out HM.out HX11.out).mono ?_
    rintro e w12 hr
    rw [hL, hok] at hr
    obtain ⟨A12, c12, rfl, hown12, hb12⟩ := rowi_of hr
    have HG12 := Lib.hid (own_below HG11.out hb12)
    have HW12 := Lib.hid (own_below HW11.out hb12)
    have HH12 := Lib.hid hown12
    have hB12 := hB11.trans (hb12.mono hB11.size)
    clear hr hown12
    go_wp2_with fail
    refine (c_eqIntS A12 A2 c12 c2 L _ (holds_own HH12.out) (holds_own HW12.out) (by omega)).mono ?_
    rintro e w13 ⟨rfl, hq13⟩
    have hb13 := hq13.below w12.heap.size
    have HG13 := Lib.hid (own_below HG12.out hb13)
    have hB13 := hB12.trans (hb13.mono hB12.size)
    clear hq13
    go_wp2_with fail
    refine (c_heldIntS A4 L.length c4 _ _ HG13.out (by omega)).mono ?_
    rintro e w' ⟨rfl, rfl⟩
    go_wp2
    go_ret
    exact ⟨rfl, hB13⟩
  · clear h hl hm
    go_enter Try.func14, Try.ntmps14
    go_wp2_with fail
    refine (c_szFrameL A n c _ hn (by omega)).mono ?_
    rintro e w' ⟨rfl, rfl⟩
    go_wp2
    go_ret
    exact ⟨rfl, Below.refl _ _⟩
theorem fcs_get : ∀ {l : List P.Fr} {j : Nat} {u : Value}, (fcs l)[j]? = some u → ∃ (i : Nat) (f : P.Fr), l[i]? = some f ∧ ((j = i * 3 ∧ u = .int .i64 f.1) ∨ (j = i * 3 + 1 ∧ u = .int .i64 f.2.1) ∨ (j = i * 3 + 2 ∧ u = .int .i64 f.2.2)) := by
  intro l
  induction l with
  | nil => intro j u h; simp [fcs] at h
  | cons x t ih =>
    intro j u h
    match j with
    | 0 => simp [fcs] at h; exact ⟨0, x, rfl, .inl ⟨rfl, h.symm⟩⟩
    | 1 => simp [fcs] at h; exact ⟨0, x, rfl, .inr (.inl ⟨rfl, h.symm⟩)⟩
    | 2 => simp [fcs] at h; exact ⟨0, x, rfl, .inr (.inr ⟨rfl, h.symm⟩)⟩
    | j + 3 =>
      have h' : (fcs t)[j]? = some u := by simpa [fcs] using h
      obtain ⟨i, f, hf, hc⟩ := ih h'
      refine ⟨i + 1, f, by simpa using hf, ?_⟩
      rcases hc with ⟨h1, h2⟩ | ⟨h1, h2⟩ | ⟨h1, h2⟩
      · exact .inl ⟨by omega, h2⟩
      · exact .inr (.inl ⟨by omega, h2⟩)
      · exact .inr (.inr ⟨by omega, h2⟩)
section
open Go.ChangeShapes Go.WideShapes Go.Joins Go.Deep
variable {H : Type} {enc : TypeId × Value → H} {P : Program} {w : World} {base : Nat} {held : Bool}
/-- a slice of structs of three integers -/
theorem open_threes {r : Reach} {b0 : Nat} {t e : TypeId} {f0 f1 f2 : Field} {v : Value} {d : DataW H} {p : List MemPlace} (ht : P.underlying t = some (.slice e)) (hs : P.underlying e = some (.struct #[f0, f1, f2])) (hone : oneCellFields P #[f0, f1, f2] = true) (hC : P.cellsOf e = 3)
    (i0 : P.underlying f0.type = some (.int .i64)) (i1 : P.underlying f1.type = some (.int .i64)) (i2 : P.underlying f2.type = some (.int .i64))
    (hv : Value.okWide P w r b0 t v) (h : DataW.Trod enc P w base (fun _ => true) held t v d p) :
    ∃ (A : Option Addr) (len cap : Nat) (l : List (Int × Int × Int)), v = .slice A len cap ∧ l.length = len ∧ len ≤ maxLen ∧ Holds w A (fcs l) := by
  obtain ⟨a, len, cap, rfl⟩ := okWide_slice ht hv
  obtain ⟨fuel, hf⟩ := h
  rcases open_slice ht hf with ⟨hcs, _⟩ | ⟨x, len', c, m, n, D, Pl, hcs, _, hl, hm, hmm, _, hx⟩
  · simp [Value.cells] at hcs
    obtain ⟨rfl, rfl, rfl⟩ := hcs
    exact ⟨Option.none, 0, 0, [], rfl, rfl, by omega, fun hne => absurd rfl hne⟩
  · simp [Value.cells] at hcs
    obtain ⟨rfl, rfl, rfl⟩ := hcs
    simp only [if_true] at hmm
    obtain ⟨o0, k0⟩ := hone_of hone 0 f0 rfl
    obtain ⟨o1, k1⟩ := hone_of hone 1 f1 rfl
    obtain ⟨o2, k2⟩ := hone_of hone 2 f2 rfl
    have each : ∀ i, i < len → ∃ q : Int × Int × Int, w.cell? (x.add (i * 3)) = some (.int .i64 q.1) ∧ w.cell? (x.add (i * 3 + 1)) = some (.int .i64 q.2.1) ∧ w.cell? (x.add (i * 3 + 2)) = some (.int .i64 q.2.2) := by
      intro i hi
      obtain ⟨cs', h1, h2⟩ := hx i (by omega)
      rw [hC] at h1
      obtain ⟨_, hlen, hcell⟩ := World.cells?_some h1
      obtain ⟨y0, y1, y2, k, _, _, g0, g1, g2⟩ := trod_struct3 hs h2
      match cs', hlen with
      | [v0, v1, v2], _ =>
        simp [o0, o1, o2, k0, k1, k2] at g0 g1 g2
        obtain ⟨z0, hz0, _, _⟩ := DataW.trod_int i0 g0
        obtain ⟨z1, hz1, _, _⟩ := DataW.trod_int i1 g1
        obtain ⟨z2, hz2, _, _⟩ := DataW.trod_int i2 g2
        simp only [List.cons.injEq, and_true] at hz0 hz1 hz2
        subst hz0 hz1 hz2
        have e0 := hcell 0 (by omega)
        have e1 := hcell 1 (by omega)
        have e2 := hcell 2 (by omega)
        rw [add_add] at e0 e1 e2
        exact ⟨(z0, z1, z2), by simpa using e0, by simpa using e1, by simpa using e2⟩
    obtain ⟨q, hq⟩ := choose_lt each
    refine ⟨some x, len, cap, (List.range len).map q, rfl, by simp, by omega, holds_of_add fun j u hj => ?_⟩
    obtain ⟨i, f, hf', hc⟩ := fcs_get hj
    rw [List.getElem?_map] at hf'
    have hi : i < len := by
      rcases Nat.lt_or_ge i len with h' | h'
      · exact h'
      · rw [List.getElem?_eq_none (by simpa using h')] at hf'; simp at hf'
    rw [List.getElem?_range hi] at hf'
    simp at hf'
    subst hf'
    obtain ⟨c0, c1, c2⟩ := hq i hi
    rcases hc with ⟨rfl, rfl⟩ | ⟨rfl, rfl⟩ | ⟨rfl, rfl⟩
    · exact c0
    · exact c1
    · exact c2
end
end Go.Proofs.Ytfbanjmooknafaa
