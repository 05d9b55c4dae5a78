/-
  The walk of the law on addresses.
-/
import Derived.Test.YtfbanjmooknafaaLT
import Derived.Test.YtfbanjmooknafaaDY
import Derived.Test.YtfbanjmooknafaaFN
import Derived.Test.YtfbanjmooknafaaPlain4
namespace Go.Proofs.Ytfbanjmooknafaa
open Go.RowKit Go.ChangeShapes Go.WideShapes Go.ChangeAt Go.Joins Go.Deep
set_option linter.unusedSimpArgs false
set_option linter.unusedVariables false
set_option maxRecDepth 100000

theorem xor_flip : ∀ (a b : List UInt8), P.xorL a b = P.xorL b a := by
  intro a
  induction a with
  | nil => intro b; cases b <;> rfl
  | cons x t ih =>
    intro b
    cases b with
    | nil => rfl
    | cons y s =>
      have h := ih s
      unfold P.xorL at h ⊢
      simp only [List.zipWith_cons_cons, h, eq_comm]
theorem fm_inj {a b c x y z : Nat} (ha : a ≤ 15) (hb : b ≤ 65535) (hc : c ≤ 16777215) (hx : x ≤ 15) (hy : y ≤ 65535) (hz : z ≤ 16777215) (h : fmL a b c = fmL x y z) : a = x ∧ b = y ∧ c = z := by
  obtain ⟨p1, p2, p3⟩ := fm_parts ha hb hc
  obtain ⟨q1, q2, q3⟩ := fm_parts hx hy hz
  rw [h] at p1 p2 p3
  rw [q1] at p1
  rw [q2] at p2
  rw [q3] at p3
  exact ⟨by omega, by omega, by omega⟩
/-- two different frames differ in at least four bits -/
theorem fd_law {a b c x y z : Int} (h : frOk a b c = true) (h2 : frOk x y z = true) : ∃ d : Nat, fdI a b c x y z = d ∧ fdI x y z a b c = d ∧ (d = 0 ↔ a = x ∧ b = y ∧ c = z) ∧ (d = 0 ∨ 4 ≤ d) ∧ d ≤ 64 := by
  obtain ⟨⟨a0, a1⟩, ⟨b0, b1⟩, c0, c1⟩ := P.frB_iff.1 (show P.frB a b c = true from h)
  obtain ⟨⟨x0, x1⟩, ⟨y0, y1⟩, z0, z1⟩ := P.frB_iff.1 (show P.frB x y z = true from h2)
  obtain ⟨a, rfl⟩ : ∃ k : Nat, a = (k : Int) := ⟨a.toNat, by omega⟩
  obtain ⟨b, rfl⟩ : ∃ k : Nat, b = (k : Int) := ⟨b.toNat, by omega⟩
  obtain ⟨c, rfl⟩ : ∃ k : Nat, c = (k : Int) := ⟨c.toNat, by omega⟩
  obtain ⟨x, rfl⟩ : ∃ k : Nat, x = (k : Int) := ⟨x.toNat, by omega⟩
  obtain ⟨y, rfl⟩ : ∃ k : Nat, y = (k : Int) := ⟨y.toNat, by omega⟩
  obtain ⟨z, rfl⟩ : ∃ k : Nat, z = (k : Int) := ⟨z.toNat, by omega⟩
  have e1 := fd_yes (a := a) (b := b) (c := c) (x := x) (y := y) (z := z) (by unfold fdOk; rw [h, h2]; rfl)
  have e2 := fd_yes (a := x) (b := y) (c := z) (x := a) (y := b) (z := c) (by unfold fdOk; rw [h, h2]; rfl)
  have u1 := fmL_len a b c
  have u2 := fmL_len x y z
  have v1 := fmL_bits a b c
  have v2 := fmL_bits x y z
  have s1 := fm_sound a b c
  have s2 := fm_sound x y z
  unfold isB sndB at s1 s2
  rw [Bool.and_eq_true, decide_eq_true_eq] at s1 s2
  have hx0 : P.synN (P.xorL (fmL a b c) (fmL x y z)) = 0 := by
    rw [P.synN_xor v1 v2 (by omega) (by omega), s1.2, s2.2]; rfl
  have hxl : (P.xorL (fmL a b c) (fmL x y z)).length = 56 := by rw [P.xorL_len (by omega), u1]
  have h4 := P.four_apart (P.xorL_bits (fmL a b c) (fmL x y z)) (by omega) (by omega) hx0
  have hz := P.xor_same v1 v2 (by omega)
  have hle := P.onesL_le (P.xorL (fmL a b c) (fmL x y z))
  refine ⟨P.onesL (P.xorL (fmL a b c) (fmL x y z)), e1, by rw [e2, xor_flip], ?_, h4, by omega⟩
  rw [hz]
  constructor
  · intro e
    obtain ⟨r1, r2, r3⟩ := fm_inj (by omega) (by omega) (by omega) (by omega) (by omega) (by omega) e
    exact ⟨by omega, by omega, by omega⟩
  · rintro ⟨r1, r2, r3⟩
    have r1 : a = x := by omega
    have r2 : b = y := by omega
    have r3 : c = z := by omega
    subst r1 r2 r3; rfl
theorem rowi_of2 {w w' : World} {L : List Int} {o : Bool} {e : Ending} (h : RetRowB 3 w (vi L) o e w') : ∃ A cap, e = .returned (.tuple #[.slice A L.length cap, .bool o]) ∧ w'.ownsRow w.heap.size 3 1 (.slice A L.length cap) L.length (vi L) ∧ Below w.heap.size w w' := by
  obtain ⟨A, cap, h1, h2, h3⟩ := h
  rw [vi_len] at h1 h2
  exact ⟨A, cap, h1, h2, h3⟩
theorem csTo_le (as' L : List Int) (h : ∀ a, as'.count a ≤ 20) : ∀ k, P.csTo as' L k ≤ 20 * k := by
  intro k
  induction k with
  | zero => simp [P.csTo]
  | succ k ih => have := h (L.getD k 0); unfold P.csTo; omega
theorem k_FD (a b c x y z d : Int) (o : Bool) (hd : fdI a b c x y z = d) (ho : fdOk a b c x y z = o) (w : World) : Calls Try.prog 77 #[.agg #[.int .i64 a, .int .i64 b, .int .i64 c], .agg #[.int .i64 x, .int .i64 y, .int .i64 z]] w fun e w' => e = .returned (.tuple #[.int .i64 d, .bool o]) ∧ Below w.heap.size w w' := by
  have h := c_implFrameDistance a b c x y z w
  rw [hd, ho] at h; exact h
theorem k_FDs (a b c x y z d : Int) (o : Bool) (hd : fdI a b c x y z = d) (ho : fdOk a b c x y z = o) (w : World) : Calls Try.prog 78 #[.agg #[.int .i64 a, .int .i64 b, .int .i64 c], .agg #[.int .i64 x, .int .i64 y, .int .i64 z]] w fun e w' => e = .returned (.tuple #[.int .i64 d, .bool o]) ∧ Below w.heap.size w w' := by
  have h := c_specFrameDistance a b c x y z w
  rw [hd, ho] at h; exact h
set_option maxHeartbeats 4000000 in
theorem l_FnAddresses (A : Option Addr) (n c : Nat) (l : List UInt8) (w : World) (hl : l.length = n) (hm : n ≤ maxLen) (h : Holds w A (ub l)) : Calls Try.prog 9 #[.slice A n c] w fun e w' => e = .returned (.bool true) ∧ Below w.heap.size w w' := by
  clear hm
  by_cases hn : n ≤ 65536
  · have HL := Lib.hid hl
    have HH := Lib.hid h
    clear hl h
    go_enter Try.func9, Try.ntmps9
    go_wp2_with (go_at_call 15; refine (c_vBig A n c _).mono ?_; rintro e w' ⟨rfl, rfl⟩)
    refine (c_DrawFrameDistance A n c l _ HL.out hn HH.out).mono ?_
    rintro e w1 ⟨a, b, d, x, y, z, hn1, hn2, rfl, hb1⟩
    obtain ⟨o, ho⟩ : ∃ o, fdOk a b d x y z = o := ⟨_, rfl⟩
    have HO := Lib.hid ho
    have HO' := Lib.hid (show fdOk x y z a b d = o by rw [← ho]; unfold fdOk; rw [Bool.and_comm])
    clear hn1 hn2
    cases o with
    | false =>
      have HD := Lib.hid (fd_no ho)
      have HD' := Lib.hid (fd_no HO'.out)
      clear ho
      have hA1 := (Below.refl w1.heap.size w1).alloc (Nat.le_refl _) (.cells #[.int .i64 a, .int .i64 b, .int .i64 d] 57)
      obtain ⟨hX, hY, hB0⟩ := two_boxes w1 a b d x y z 57
      have e1 : (w1.alloc (.cells #[.int .i64 a, .int .i64 b, .int .i64 d] 57)).heap.size = w1.heap.size + 1 := by simp
      obtain ⟨W1, hW1⟩ : ∃ W1, (w1.alloc (.cells #[.int .i64 a, .int .i64 b, .int .i64 d] 57)).alloc (.cells #[.int .i64 x, .int .i64 y, .int .i64 z] 57) = W1 := ⟨_, rfl⟩
      rw [hW1] at hX hY hB0
      have XA := Lib.hid hX
      have XB := Lib.hid hY
      have hB1 := hb1.trans (hB0.mono hb1.size)
      obtain ⟨⟨k0, k1, k2⟩, _, _, _⟩ := XA.out
      obtain ⟨⟨j0, j1, j2⟩, _, _, _⟩ := XB.out
      clear hX hY hB0 hA1 hb1
      go_wp2_with fail
      clear hW1
      refine (k_FD a b d x y z 0 false HD.out HO.out _).mono ?_
      rintro e w2 ⟨rfl, hb2⟩
      have XA2 := Lib.hid (XA.out.below hb2)
      have XB2 := Lib.hid (XB.out.below hb2)
      have hB2 := hB1.trans (hb2.mono hB1.size)
      clear k0 k1 k2 j0 j1 j2 hb2
      obtain ⟨⟨k0, k1, k2⟩, _, _, _⟩ := XA2.out
      obtain ⟨⟨j0, j1, j2⟩, _, _, _⟩ := XB2.out
      go_wp2_with fail
      refine (k_FD x y z a b d 0 false HD'.out HO'.out _).mono ?_
      rintro e w3 ⟨rfl, hb3⟩
      have XA3 := Lib.hid (XA2.out.below hb3)
      have XB3 := Lib.hid (XB2.out.below hb3)
      have hB3 := hB2.trans (hb3.mono hB2.size)
      clear k0 k1 k2 j0 j1 j2 hb3
      obtain ⟨⟨k0, k1, k2⟩, _, _, _⟩ := XA3.out
      obtain ⟨⟨j0, j1, j2⟩, _, _, _⟩ := XB3.out
      go_wp2_with fail
      refine (k_FDs a b d x y z 0 false HD.out HO.out _).mono ?_
      rintro e w4 ⟨rfl, hb4⟩
      have XA4 := Lib.hid (XA3.out.below hb4)
      have XB4 := Lib.hid (XB3.out.below hb4)
      have hB4 := hB3.trans (hb4.mono hB3.size)
      clear k0 k1 k2 j0 j1 j2 hb4
      go_wp2_with fail
      refine (c_DrawFramesOf A n c l _ HL.out hn (holds_belowU HH.out hB4)).mono ?_
      rintro e v1 ⟨A1, n1, c1, fs, ad, hfs, hn1, rfl, hh1, hv1⟩
      have HFS := Lib.hid hfs
      have HH1 := Lib.hid hh1
      obtain ⟨L, hL⟩ : ∃ L, P.foL fs ad = L := ⟨_, rfl⟩
      obtain ⟨ok, hok⟩ : ∃ ok, P.foOk fs ad = ok := ⟨_, rfl⟩
      have hLl : L.length ≤ 30 := by
        have := P.foTo_le (P.ads fs) ad fs.length
        rw [← hL]; unfold P.foL
        split
        · omega
        · simp
      have hV1 := hB4.trans (hv1.mono hB4.size)
      clear hfs hh1 hv1 hB4
      go_wp2_with fail
      refine (c_implFramesOf A1 n1 c1 fs ad _ HFS.out (by unfold maxLen; omega) HH1.out).mono ?_
      rintro e v2 hr
      rw [hL, hok] at hr
      obtain ⟨A2, c2, rfl, ho2, hv2⟩ := rowi_of2 hr
      have HR2 := Lib.hid ho2
      have HH2 := Lib.hid (holds_belowU HH1.out hv2)
      have hV2 := hV1.trans (hv2.mono hV1.size)
      clear hr ho2 hv2 hV1
      go_wp2_with fail
      refine (c_specFramesOf A1 n1 c1 fs ad _ HFS.out (by unfold maxLen; omega) HH2.out).mono ?_
      rintro e v3 hr
      rw [hL, hok] at hr
      obtain ⟨A3, c3, rfl, ho3, hv3⟩ := rowi_of2 hr
      have HR3 := Lib.hid ho3
      have HR2' := Lib.hid (own_below HR2.out hv3)
      have hV3 := hV2.trans (hv3.mono hV2.size)
      clear hr ho3 hv3 hV2 hL hok
      go_wp2_with fail
      refine (c_vInts A2 A3 c2 c3 L _ (holds_own HR2'.out) (holds_own HR3.out) (by omega)).mono ?_
      rintro e v4 ⟨rfl, hq4⟩
      have hV4 := hV3.trans ((hq4.below v3.heap.size).mono hV3.size)
      clear hq4 hV3 HR2 HR2' HR3 HH1 HH2
      go_wp2_with fail
      refine (c_DrawAddressesOf A n c l _ HL.out hn (holds_belowU HH.out hV4)).mono ?_
      rintro e v5 ⟨A5, n5, c5, gs, hgs, hn5, rfl, hh5, hv5⟩
      have HGS := Lib.hid hgs
      have HH5 := Lib.hid hh5
      have hV5 := hV4.trans (hv5.mono hV4.size)
      clear hgs hh5 hv5 hV4
      obtain ⟨ok5, hok5⟩ : ∃ ok, P.fsOk gs = ok := ⟨_, rfl⟩
      obtain ⟨M, hM⟩ : ∃ M, P.aoL gs = M := ⟨_, rfl⟩
      have hMl : M.length ≤ 30 := by
        have := P.adTo_len (P.ads gs) gs.length
        have := HGS.out
        rw [← hM]; unfold P.aoL
        split
        · omega
        · simp
      have HOK5 := Lib.hid hok5
      have HM := Lib.hid hM
      clear hok5 hM
      cases ok5 with
      | false =>
        have hM0 : M = [] := by rw [← HM.out]; exact ao_no HOK5.out
        subst hM0
        go_wp2_with fail
        refine (c_implAddressesOf A5 n5 c5 gs _ HGS.out (by unfold maxLen; omega) HH5.out).mono ?_
        rintro e v6 hr
        rw [HM.out, HOK5.out] at hr
        obtain ⟨A6, c6, rfl, ho6, hv6⟩ := rowi_of2 hr
        have HR6 := Lib.hid ho6
        have HH6 := Lib.hid (holds_belowU HH5.out hv6)
        have hV6 := hV5.trans (hv6.mono hV5.size)
        clear hr ho6 hv6 hV5
        go_wp2_with fail
        refine (c_specAddressesOf A5 n5 c5 gs _ HGS.out (by unfold maxLen; omega) HH6.out).mono ?_
        rintro e v7 hr
        rw [HM.out, HOK5.out] at hr
        obtain ⟨A7, c7, rfl, ho7, hv7⟩ := rowi_of2 hr
        have HR7 := Lib.hid ho7
        have HR6' := Lib.hid (own_below HR6.out hv7)
        have HH7 := Lib.hid (holds_belowU HH6.out hv7)
        have hV7 := hV6.trans (hv7.mono hV6.size)
        clear hr ho7 hv7 hV6
        go_wp2_with fail
        refine (c_vInts A6 A7 c6 c7 _ _ (holds_own HR6'.out) (holds_own HR7.out) (by omega)).mono ?_
        rintro e v8 ⟨rfl, hq8⟩
        have hv8 := hq8.below v7.heap.size
        have HR6'' := Lib.hid (own_below HR6'.out hv8)
        have HH8 := Lib.hid (holds_belowU HH7.out hv8)
        have hV8 := hV7.trans (hv8.mono hV7.size)
        clear hq8 hv8 hV7 HR6 HR6' HR7 HH5 HH6 HH7
        have hlen : ([] : List Int).length = 0 := rfl
        go_wp2
        refine wp_loop_rounds 1 ?_
        rw [rounds_succ]
        go_wp2
        go_ret
        exact ⟨rfl, hV8⟩
      | true =>
        obtain ⟨law1, law2, law3, law4⟩ := P.ao_law HOK5.out
        rw [HM.out] at law1 law2
        have LAW4 := Lib.hid (show ∀ k (hk : k < M.length), P.foOk gs M[k] = true ∧ (P.foL gs M[k]).length = (P.ads gs).count (M.getD k 0) ∧ 0 < (P.ads gs).count (M.getD k 0) ∧ (P.ads gs).count (M.getD k 0) ≤ 20 by
          have e := HM.out
          subst e
          exact law4)
        have LAW1 := Lib.hid (law1.trans HGS.out)
        clear law1 law3 law4
        go_wp2_with fail
        refine (c_implAddressesOf A5 n5 c5 gs _ HGS.out (by unfold maxLen; omega) HH5.out).mono ?_
        rintro e v6 hr
        rw [HM.out, HOK5.out] at hr
        obtain ⟨A6, c6, rfl, ho6, hv6⟩ := rowi_of2 hr
        have HR6 := Lib.hid ho6
        have HH6 := Lib.hid (holds_belowU HH5.out hv6)
        have hV6 := hV5.trans (hv6.mono hV5.size)
        clear hr ho6 hv6 hV5
        go_wp2_with fail
        refine (c_specAddressesOf A5 n5 c5 gs _ HGS.out (by unfold maxLen; omega) HH6.out).mono ?_
        rintro e v7 hr
        rw [HM.out, HOK5.out] at hr
        obtain ⟨A7, c7, rfl, ho7, hv7⟩ := rowi_of2 hr
        have HR7 := Lib.hid ho7
        have HR6' := Lib.hid (own_below HR6.out hv7)
        have HH7 := Lib.hid (holds_belowU HH6.out hv7)
        have hV7 := hV6.trans (hv7.mono hV6.size)
        clear hr ho7 hv7 hV6
        go_wp2_with fail
        refine (c_vInts A6 A7 c6 c7 _ _ (holds_own HR6'.out) (holds_own HR7.out) (by omega)).mono ?_
        rintro e v8 ⟨rfl, hq8⟩
        have hv8 := hq8.below v7.heap.size
        have HR6'' := Lib.hid (own_below HR6'.out hv8)
        have HH8 := Lib.hid (holds_belowU HH7.out hv8)
        have hV8 := hV7.trans (hv8.mono hV7.size)
        clear hq8 hv8 hV7 HR6 HR6' HR7 HH5 HH6 HH7
        obtain ⟨q, hq⟩ : ∃ q, M.length = q := ⟨_, rfl⟩
        have HROW := Lib.hid (show v8.ownsRow v5.heap.size 3 1 (.slice A6 q c6) q (vi M) by rw [← hq]; exact HR6''.out)
        rw [hq] at law2 hMl ⊢
        have HMQ := Lib.hid hq
        clear hq
        have hV8' := hV8
        go_wp2
        go_loopw [22, 23] (fun ct i wr => ∃ k t : Nat, k ≤ q ∧ i = .int .i64 k ∧ ct = .int .i64 t ∧ P.csTo (P.ads gs) M k = t ∧ t ≤ 20 * k ∧ Below v8.heap.size v8 wr) (fun _ i _ => q - (intOf i).toNat)
        case atStart => exact ⟨0, 0, Nat.zero_le _, rfl, rfl, rfl, by omega, Below.refl _ _⟩
        case round =>
          obtain ⟨k, t, hk, rfl, rfl, ht, ht20, hbr⟩ := hrel
          have HT := Lib.hid ht
          clear ht
          by_cases hlt : k < q
          · have hkm : k < M.length := by rw [HMQ.out]; exact hlt
            obtain ⟨m1, m2, m3, m4⟩ := LAW4.out k hkm
            obtain ⟨av, hav⟩ : ∃ av, M[k] = av := ⟨_, rfl⟩
            obtain ⟨cnt, hcnt⟩ : ∃ cnt, (P.ads gs).count (M.getD k 0) = cnt := ⟨_, rfl⟩
            rw [hav] at m1 m2
            rw [hcnt] at m2 m3 m4
            have hrw := own_below HROW.out hbr
            obtain ⟨g6, cc6, hv6, _⟩ := own_form hrw (by omega)
            injection hv6 with hA6 _ hc6
            subst hA6 hc6
            have hcell : wr.cell? ⟨g6, k, none⟩ = some (.int .i64 av) := by rw [hrw.cellAt k (by omega), vi_at hkm, hav]
            have M1 := Lib.hid m1
            have M2 := Lib.hid m2
            have HS := Lib.hid (show P.csTo (P.ads gs) M (k + 1) = t + cnt by rw [P.csTo, HT.out, hcnt])
            have HH9 := Lib.hid (holds_belowU HH8.out hbr)
            have hc0 : ((cnt : Int) == 0) = false := by rw [beq_eq_false_iff_ne]; omega
            clear hrw m1 m2 hav hcnt
            go_wp2_with fail
            refine (c_implFramesOf A5 n5 c5 gs av _ HGS.out (by unfold maxLen; omega) HH9.out).mono ?_
            rintro e v9 hr
            rw [M1.out] at hr
            obtain ⟨A9, c9, rfl, _, hv9⟩ := rowi_of2 hr
            rw [M2.out]
            have hbr9 := hbr.trans (hv9.mono hbr.size)
            clear hr hv9
            go_wp2
            go_roundw
            case rel => exact ⟨k + 1, t + cnt, by omega, by go_num, by go_num, HS.out, by omega, hbr9⟩
            case measure => simp [intOf]; omega
          · have HE := Lib.hid (show t = n5 by rw [← HT.out, show k = q by omega, ← HMQ.out]; exact LAW1.out)
            have hbb := hV8.trans (hbr.mono hV8.size)
            have hte : ((t : Int) == (n5 : Int)) = true := by rw [HE.out]; simp
            go_wp2
            go_ret
            exact ⟨ret_bool (by first | rfl | exact hte | simp [hte]), hbb⟩
    | true =>
      have ho2 := ho
      unfold fdOk at ho2
      rw [Bool.and_eq_true] at ho2
      obtain ⟨q, hq1, hq2, hq3, hq4, hq64⟩ := fd_law ho2.1 ho2.2
      have HD := Lib.hid hq1
      have HD' := Lib.hid hq2
      clear ho ho2 hq1 hq2
      have hA1 := (Below.refl w1.heap.size w1).alloc (Nat.le_refl _) (.cells #[.int .i64 a, .int .i64 b, .int .i64 d] 57)
      obtain ⟨hX, hY, hB0⟩ := two_boxes w1 a b d x y z 57
      have e1 : (w1.alloc (.cells #[.int .i64 a, .int .i64 b, .int .i64 d] 57)).heap.size = w1.heap.size + 1 := by simp
      obtain ⟨W1, hW1⟩ : ∃ W1, (w1.alloc (.cells #[.int .i64 a, .int .i64 b, .int .i64 d] 57)).alloc (.cells #[.int .i64 x, .int .i64 y, .int .i64 z] 57) = W1 := ⟨_, rfl⟩
      rw [hW1] at hX hY hB0
      have XA := Lib.hid hX
      have XB := Lib.hid hY
      have hB1 := hb1.trans (hB0.mono hb1.size)
      obtain ⟨⟨k0, k1, k2⟩, _, _, _⟩ := XA.out
      obtain ⟨⟨j0, j1, j2⟩, _, _, _⟩ := XB.out
      clear hX hY hB0 hA1 hb1
      go_wp2_with fail
      clear hW1
      refine (k_FD a b d x y z q true HD.out HO.out _).mono ?_
      rintro e w2 ⟨rfl, hb2⟩
      have XA2 := Lib.hid (XA.out.below hb2)
      have XB2 := Lib.hid (XB.out.below hb2)
      have hB2 := hB1.trans (hb2.mono hB1.size)
      clear k0 k1 k2 j0 j1 j2 hb2
      obtain ⟨⟨k0, k1, k2⟩, _, _, _⟩ := XA2.out
      obtain ⟨⟨j0, j1, j2⟩, _, _, _⟩ := XB2.out
      go_wp2_with fail
      refine (k_FD x y z a b d q true HD'.out HO'.out _).mono ?_
      rintro e w3 ⟨rfl, hb3⟩
      have XA3 := Lib.hid (XA2.out.below hb3)
      have XB3 := Lib.hid (XB2.out.below hb3)
      have hB3 := hB2.trans (hb3.mono hB2.size)
      clear k0 k1 k2 j0 j1 j2 hb3
      obtain ⟨⟨k0, k1, k2⟩, _, _, _⟩ := XA3.out
      obtain ⟨⟨j0, j1, j2⟩, _, _, _⟩ := XB3.out
      go_wp2_with fail
      refine (k_FDs a b d x y z q true HD.out HO.out _).mono ?_
      rintro e w4 ⟨rfl, hb4⟩
      have XA4 := Lib.hid (XA3.out.below hb4)
      have XB4 := Lib.hid (XB3.out.below hb4)
      have hB4 := hB3.trans (hb4.mono hB3.size)
      clear k0 k1 k2 j0 j1 j2 hb4
      obtain ⟨⟨k0, k1, k2⟩, _, _, _⟩ := XA4.out
      obtain ⟨⟨j0, j1, j2⟩, _, _, _⟩ := XB4.out
      by_cases hq0 : q = 0
      · obtain ⟨ra, rb, rd⟩ := hq3.1 hq0
        subst ra rb rd hq0
        clear hq3 hq4 hq64
        go_wp2_with fail
        refine (c_DrawFramesOf A n c l _ HL.out hn (holds_belowU HH.out hB4)).mono ?_
        rintro e v1 ⟨A1, n1, c1, fs, ad, hfs, hn1, rfl, hh1, hv1⟩
        have HFS := Lib.hid hfs
        have HH1 := Lib.hid hh1
        obtain ⟨L, hL⟩ : ∃ L, P.foL fs ad = L := ⟨_, rfl⟩
        obtain ⟨ok, hok⟩ : ∃ ok, P.foOk fs ad = ok := ⟨_, rfl⟩
        have hLl : L.length ≤ 30 := by
          have := P.foTo_le (P.ads fs) ad fs.length
          rw [← hL]; unfold P.foL
          split
          · omega
          · simp
        have hV1 := hB4.trans (hv1.mono hB4.size)
        clear hfs hh1 hv1 hB4
        go_wp2_with fail
        refine (c_implFramesOf A1 n1 c1 fs ad _ HFS.out (by unfold maxLen; omega) HH1.out).mono ?_
        rintro e v2 hr
        rw [hL, hok] at hr
        obtain ⟨A2, c2, rfl, ho2, hv2⟩ := rowi_of2 hr
        have HR2 := Lib.hid ho2
        have HH2 := Lib.hid (holds_belowU HH1.out hv2)
        have hV2 := hV1.trans (hv2.mono hV1.size)
        clear hr ho2 hv2 hV1
        go_wp2_with fail
        refine (c_specFramesOf A1 n1 c1 fs ad _ HFS.out (by unfold maxLen; omega) HH2.out).mono ?_
        rintro e v3 hr
        rw [hL, hok] at hr
        obtain ⟨A3, c3, rfl, ho3, hv3⟩ := rowi_of2 hr
        have HR3 := Lib.hid ho3
        have HR2' := Lib.hid (own_below HR2.out hv3)
        have hV3 := hV2.trans (hv3.mono hV2.size)
        clear hr ho3 hv3 hV2 hL hok
        go_wp2_with fail
        refine (c_vInts A2 A3 c2 c3 L _ (holds_own HR2'.out) (holds_own HR3.out) (by omega)).mono ?_
        rintro e v4 ⟨rfl, hq4⟩
        have hV4 := hV3.trans ((hq4.below v3.heap.size).mono hV3.size)
        clear hq4 hV3 HR2 HR2' HR3 HH1 HH2
        go_wp2_with fail
        refine (c_DrawAddressesOf A n c l _ HL.out hn (holds_belowU HH.out hV4)).mono ?_
        rintro e v5 ⟨A5, n5, c5, gs, hgs, hn5, rfl, hh5, hv5⟩
        have HGS := Lib.hid hgs
        have HH5 := Lib.hid hh5
        have hV5 := hV4.trans (hv5.mono hV4.size)
        clear hgs hh5 hv5 hV4
        obtain ⟨ok5, hok5⟩ : ∃ ok, P.fsOk gs = ok := ⟨_, rfl⟩
        obtain ⟨M, hM⟩ : ∃ M, P.aoL gs = M := ⟨_, rfl⟩
        have hMl : M.length ≤ 30 := by
          have := P.adTo_len (P.ads gs) gs.length
          have := HGS.out
          rw [← hM]; unfold P.aoL
          split
          · omega
          · simp
        have HOK5 := Lib.hid hok5
        have HM := Lib.hid hM
        clear hok5 hM
        cases ok5 with
        | false =>
          have hM0 : M = [] := by rw [← HM.out]; exact ao_no HOK5.out
          subst hM0
          go_wp2_with fail
          refine (c_implAddressesOf A5 n5 c5 gs _ HGS.out (by unfold maxLen; omega) HH5.out).mono ?_
          rintro e v6 hr
          rw [HM.out, HOK5.out] at hr
          obtain ⟨A6, c6, rfl, ho6, hv6⟩ := rowi_of2 hr
          have HR6 := Lib.hid ho6
          have HH6 := Lib.hid (holds_belowU HH5.out hv6)
          have hV6 := hV5.trans (hv6.mono hV5.size)
          clear hr ho6 hv6 hV5
          go_wp2_with fail
          refine (c_specAddressesOf A5 n5 c5 gs _ HGS.out (by unfold maxLen; omega) HH6.out).mono ?_
          rintro e v7 hr
          rw [HM.out, HOK5.out] at hr
          obtain ⟨A7, c7, rfl, ho7, hv7⟩ := rowi_of2 hr
          have HR7 := Lib.hid ho7
          have HR6' := Lib.hid (own_below HR6.out hv7)
          have HH7 := Lib.hid (holds_belowU HH6.out hv7)
          have hV7 := hV6.trans (hv7.mono hV6.size)
          clear hr ho7 hv7 hV6
          go_wp2_with fail
          refine (c_vInts A6 A7 c6 c7 _ _ (holds_own HR6'.out) (holds_own HR7.out) (by omega)).mono ?_
          rintro e v8 ⟨rfl, hq8⟩
          have hv8 := hq8.below v7.heap.size
          have HR6'' := Lib.hid (own_below HR6'.out hv8)
          have HH8 := Lib.hid (holds_belowU HH7.out hv8)
          have hV8 := hV7.trans (hv8.mono hV7.size)
          clear hq8 hv8 hV7 HR6 HR6' HR7 HH5 HH6 HH7
          have hlen : ([] : List Int).length = 0 := rfl
          go_wp2
          refine wp_loop_rounds 1 ?_
          rw [rounds_succ]
          go_wp2
          go_ret
          exact ⟨rfl, hV8⟩
        | true =>
          obtain ⟨law1, law2, law3, law4⟩ := P.ao_law HOK5.out
          rw [HM.out] at law1 law2
          have LAW4 := Lib.hid (show ∀ k (hk : k < M.length), P.foOk gs M[k] = true ∧ (P.foL gs M[k]).length = (P.ads gs).count (M.getD k 0) ∧ 0 < (P.ads gs).count (M.getD k 0) ∧ (P.ads gs).count (M.getD k 0) ≤ 20 by
            have e := HM.out
            subst e
            exact law4)
          have LAW1 := Lib.hid (law1.trans HGS.out)
          clear law1 law3 law4
          go_wp2_with fail
          refine (c_implAddressesOf A5 n5 c5 gs _ HGS.out (by unfold maxLen; omega) HH5.out).mono ?_
          rintro e v6 hr
          rw [HM.out, HOK5.out] at hr
          obtain ⟨A6, c6, rfl, ho6, hv6⟩ := rowi_of2 hr
          have HR6 := Lib.hid ho6
          have HH6 := Lib.hid (holds_belowU HH5.out hv6)
          have hV6 := hV5.trans (hv6.mono hV5.size)
          clear hr ho6 hv6 hV5
          go_wp2_with fail
          refine (c_specAddressesOf A5 n5 c5 gs _ HGS.out (by unfold maxLen; omega) HH6.out).mono ?_
          rintro e v7 hr
          rw [HM.out, HOK5.out] at hr
          obtain ⟨A7, c7, rfl, ho7, hv7⟩ := rowi_of2 hr
          have HR7 := Lib.hid ho7
          have HR6' := Lib.hid (own_below HR6.out hv7)
          have HH7 := Lib.hid (holds_belowU HH6.out hv7)
          have hV7 := hV6.trans (hv7.mono hV6.size)
          clear hr ho7 hv7 hV6
          go_wp2_with fail
          refine (c_vInts A6 A7 c6 c7 _ _ (holds_own HR6'.out) (holds_own HR7.out) (by omega)).mono ?_
          rintro e v8 ⟨rfl, hq8⟩
          have hv8 := hq8.below v7.heap.size
          have HR6'' := Lib.hid (own_below HR6'.out hv8)
          have HH8 := Lib.hid (holds_belowU HH7.out hv8)
          have hV8 := hV7.trans (hv8.mono hV7.size)
          clear hq8 hv8 hV7 HR6 HR6' HR7 HH5 HH6 HH7
          obtain ⟨q, hq⟩ : ∃ q, M.length = q := ⟨_, rfl⟩
          have HROW := Lib.hid (show v8.ownsRow v5.heap.size 3 1 (.slice A6 q c6) q (vi M) by rw [← hq]; exact HR6''.out)
          rw [hq] at law2 hMl ⊢
          have HMQ := Lib.hid hq
          clear hq
          have hV8' := hV8
          go_wp2
          go_loopw [22, 23] (fun ct i wr => ∃ k t : Nat, k ≤ q ∧ i = .int .i64 k ∧ ct = .int .i64 t ∧ P.csTo (P.ads gs) M k = t ∧ t ≤ 20 * k ∧ Below v8.heap.size v8 wr) (fun _ i _ => q - (intOf i).toNat)
          case atStart => exact ⟨0, 0, Nat.zero_le _, rfl, rfl, rfl, by omega, Below.refl _ _⟩
          case round =>
            obtain ⟨k, t, hk, rfl, rfl, ht, ht20, hbr⟩ := hrel
            have HT := Lib.hid ht
            clear ht
            by_cases hlt : k < q
            · have hkm : k < M.length := by rw [HMQ.out]; exact hlt
              obtain ⟨m1, m2, m3, m4⟩ := LAW4.out k hkm
              obtain ⟨av, hav⟩ : ∃ av, M[k] = av := ⟨_, rfl⟩
              obtain ⟨cnt, hcnt⟩ : ∃ cnt, (P.ads gs).count (M.getD k 0) = cnt := ⟨_, rfl⟩
              rw [hav] at m1 m2
              rw [hcnt] at m2 m3 m4
              have hrw := own_below HROW.out hbr
              obtain ⟨g6, cc6, hv6, _⟩ := own_form hrw (by omega)
              injection hv6 with hA6 _ hc6
              subst hA6 hc6
              have hcell : wr.cell? ⟨g6, k, none⟩ = some (.int .i64 av) := by rw [hrw.cellAt k (by omega), vi_at hkm, hav]
              have M1 := Lib.hid m1
              have M2 := Lib.hid m2
              have HS := Lib.hid (show P.csTo (P.ads gs) M (k + 1) = t + cnt by rw [P.csTo, HT.out, hcnt])
              have HH9 := Lib.hid (holds_belowU HH8.out hbr)
              have hc0 : ((cnt : Int) == 0) = false := by rw [beq_eq_false_iff_ne]; omega
              clear hrw m1 m2 hav hcnt
              go_wp2_with fail
              refine (c_implFramesOf A5 n5 c5 gs av _ HGS.out (by unfold maxLen; omega) HH9.out).mono ?_
              rintro e v9 hr
              rw [M1.out] at hr
              obtain ⟨A9, c9, rfl, _, hv9⟩ := rowi_of2 hr
              rw [M2.out]
              have hbr9 := hbr.trans (hv9.mono hbr.size)
              clear hr hv9
              go_wp2
              go_roundw
              case rel => exact ⟨k + 1, t + cnt, by omega, by go_num, by go_num, HS.out, by omega, hbr9⟩
              case measure => simp [intOf]; omega
            · have HE := Lib.hid (show t = n5 by rw [← HT.out, show k = q by omega, ← HMQ.out]; exact LAW1.out)
              have hbb := hV8.trans (hbr.mono hV8.size)
              have hte : ((t : Int) == (n5 : Int)) = true := by rw [HE.out]; simp
              go_wp2
              go_ret
              exact ⟨ret_bool (by first | rfl | exact hte | simp [hte]), hbb⟩
      · have hq4' : 4 ≤ q := by omega
        have hne : ¬ (a = x ∧ b = y ∧ d = z) := fun e => hq0 (hq3.2 e)
        have hqe : ((q : Int) == 0) = false := by rw [beq_eq_false_iff_ne]; omega
        have hq5 : (4 : Int) ≤ (q : Int) := by omega
        clear hq3 hq4
        by_cases ha : a = x
        · subst ha
          by_cases hb : b = y
          · subst hb
            have hd : ¬ d = z := fun e => hne ⟨rfl, rfl, e⟩
            clear hne
            go_wp2_with fail
            refine (c_DrawFramesOf A n c l _ HL.out hn (holds_belowU HH.out hB4)).mono ?_
            rintro e v1 ⟨A1, n1, c1, fs, ad, hfs, hn1, rfl, hh1, hv1⟩
            have HFS := Lib.hid hfs
            have HH1 := Lib.hid hh1
            obtain ⟨L, hL⟩ : ∃ L, P.foL fs ad = L := ⟨_, rfl⟩
            obtain ⟨ok, hok⟩ : ∃ ok, P.foOk fs ad = ok := ⟨_, rfl⟩
            have hLl : L.length ≤ 30 := by
              have := P.foTo_le (P.ads fs) ad fs.length
              rw [← hL]; unfold P.foL
              split
              · omega
              · simp
            have hV1 := hB4.trans (hv1.mono hB4.size)
            clear hfs hh1 hv1 hB4
            go_wp2_with fail
            refine (c_implFramesOf A1 n1 c1 fs ad _ HFS.out (by unfold maxLen; omega) HH1.out).mono ?_
            rintro e v2 hr
            rw [hL, hok] at hr
            obtain ⟨A2, c2, rfl, ho2, hv2⟩ := rowi_of2 hr
            have HR2 := Lib.hid ho2
            have HH2 := Lib.hid (holds_belowU HH1.out hv2)
            have hV2 := hV1.trans (hv2.mono hV1.size)
            clear hr ho2 hv2 hV1
            go_wp2_with fail
            refine (c_specFramesOf A1 n1 c1 fs ad _ HFS.out (by unfold maxLen; omega) HH2.out).mono ?_
            rintro e v3 hr
            rw [hL, hok] at hr
            obtain ⟨A3, c3, rfl, ho3, hv3⟩ := rowi_of2 hr
            have HR3 := Lib.hid ho3
            have HR2' := Lib.hid (own_below HR2.out hv3)
            have hV3 := hV2.trans (hv3.mono hV2.size)
            clear hr ho3 hv3 hV2 hL hok
            go_wp2_with fail
            refine (c_vInts A2 A3 c2 c3 L _ (holds_own HR2'.out) (holds_own HR3.out) (by omega)).mono ?_
            rintro e v4 ⟨rfl, hq4⟩
            have hV4 := hV3.trans ((hq4.below v3.heap.size).mono hV3.size)
            clear hq4 hV3 HR2 HR2' HR3 HH1 HH2
            go_wp2_with fail
            refine (c_DrawAddressesOf A n c l _ HL.out hn (holds_belowU HH.out hV4)).mono ?_
            rintro e v5 ⟨A5, n5, c5, gs, hgs, hn5, rfl, hh5, hv5⟩
            have HGS := Lib.hid hgs
            have HH5 := Lib.hid hh5
            have hV5 := hV4.trans (hv5.mono hV4.size)
            clear hgs hh5 hv5 hV4
            obtain ⟨ok5, hok5⟩ : ∃ ok, P.fsOk gs = ok := ⟨_, rfl⟩
            obtain ⟨M, hM⟩ : ∃ M, P.aoL gs = M := ⟨_, rfl⟩
            have hMl : M.length ≤ 30 := by
              have := P.adTo_len (P.ads gs) gs.length
              have := HGS.out
              rw [← hM]; unfold P.aoL
              split
              · omega
              · simp
            have HOK5 := Lib.hid hok5
            have HM := Lib.hid hM
            clear hok5 hM
            cases ok5 with
            | false =>
              have hM0 : M = [] := by rw [← HM.out]; exact ao_no HOK5.out
              subst hM0
              go_wp2_with fail
              refine (c_implAddressesOf A5 n5 c5 gs _ HGS.out (by unfold maxLen; omega) HH5.out).mono ?_
              rintro e v6 hr
              rw [HM.out, HOK5.out] at hr
              obtain ⟨A6, c6, rfl, ho6, hv6⟩ := rowi_of2 hr
              have HR6 := Lib.hid ho6
              have HH6 := Lib.hid (holds_belowU HH5.out hv6)
              have hV6 := hV5.trans (hv6.mono hV5.size)
              clear hr ho6 hv6 hV5
              go_wp2_with fail
              refine (c_specAddressesOf A5 n5 c5 gs _ HGS.out (by unfold maxLen; omega) HH6.out).mono ?_
              rintro e v7 hr
              rw [HM.out, HOK5.out] at hr
              obtain ⟨A7, c7, rfl, ho7, hv7⟩ := rowi_of2 hr
              have HR7 := Lib.hid ho7
              have HR6' := Lib.hid (own_below HR6.out hv7)
              have HH7 := Lib.hid (holds_belowU HH6.out hv7)
              have hV7 := hV6.trans (hv7.mono hV6.size)
              clear hr ho7 hv7 hV6
              go_wp2_with fail
              refine (c_vInts A6 A7 c6 c7 _ _ (holds_own HR6'.out) (holds_own HR7.out) (by omega)).mono ?_
              rintro e v8 ⟨rfl, hq8⟩
              have hv8 := hq8.below v7.heap.size
              have HR6'' := Lib.hid (own_below HR6'.out hv8)
              have HH8 := Lib.hid (holds_belowU HH7.out hv8)
              have hV8 := hV7.trans (hv8.mono hV7.size)
              clear hq8 hv8 hV7 HR6 HR6' HR7 HH5 HH6 HH7
              have hlen : ([] : List Int).length = 0 := rfl
              go_wp2
              refine wp_loop_rounds 1 ?_
              rw [rounds_succ]
              go_wp2
              go_ret
              exact ⟨rfl, hV8⟩
            | true =>
              obtain ⟨law1, law2, law3, law4⟩ := P.ao_law HOK5.out
              rw [HM.out] at law1 law2
              have LAW4 := Lib.hid (show ∀ k (hk : k < M.length), P.foOk gs M[k] = true ∧ (P.foL gs M[k]).length = (P.ads gs).count (M.getD k 0) ∧ 0 < (P.ads gs).count (M.getD k 0) ∧ (P.ads gs).count (M.getD k 0) ≤ 20 by
                have e := HM.out
                subst e
                exact law4)
              have LAW1 := Lib.hid (law1.trans HGS.out)
              clear law1 law3 law4
              go_wp2_with fail
              refine (c_implAddressesOf A5 n5 c5 gs _ HGS.out (by unfold maxLen; omega) HH5.out).mono ?_
              rintro e v6 hr
              rw [HM.out, HOK5.out] at hr
              obtain ⟨A6, c6, rfl, ho6, hv6⟩ := rowi_of2 hr
              have HR6 := Lib.hid ho6
              have HH6 := Lib.hid (holds_belowU HH5.out hv6)
              have hV6 := hV5.trans (hv6.mono hV5.size)
              clear hr ho6 hv6 hV5
              go_wp2_with fail
              refine (c_specAddressesOf A5 n5 c5 gs _ HGS.out (by unfold maxLen; omega) HH6.out).mono ?_
              rintro e v7 hr
              rw [HM.out, HOK5.out] at hr
              obtain ⟨A7, c7, rfl, ho7, hv7⟩ := rowi_of2 hr
              have HR7 := Lib.hid ho7
              have HR6' := Lib.hid (own_below HR6.out hv7)
              have HH7 := Lib.hid (holds_belowU HH6.out hv7)
              have hV7 := hV6.trans (hv7.mono hV6.size)
              clear hr ho7 hv7 hV6
              go_wp2_with fail
              refine (c_vInts A6 A7 c6 c7 _ _ (holds_own HR6'.out) (holds_own HR7.out) (by omega)).mono ?_
              rintro e v8 ⟨rfl, hq8⟩
              have hv8 := hq8.below v7.heap.size
              have HR6'' := Lib.hid (own_below HR6'.out hv8)
              have HH8 := Lib.hid (holds_belowU HH7.out hv8)
              have hV8 := hV7.trans (hv8.mono hV7.size)
              clear hq8 hv8 hV7 HR6 HR6' HR7 HH5 HH6 HH7
              obtain ⟨q, hq⟩ : ∃ q, M.length = q := ⟨_, rfl⟩
              have HROW := Lib.hid (show v8.ownsRow v5.heap.size 3 1 (.slice A6 q c6) q (vi M) by rw [← hq]; exact HR6''.out)
              rw [hq] at law2 hMl ⊢
              have HMQ := Lib.hid hq
              clear hq
              have hV8' := hV8
              go_wp2
              go_loopw [22, 23] (fun ct i wr => ∃ k t : Nat, k ≤ q ∧ i = .int .i64 k ∧ ct = .int .i64 t ∧ P.csTo (P.ads gs) M k = t ∧ t ≤ 20 * k ∧ Below v8.heap.size v8 wr) (fun _ i _ => q - (intOf i).toNat)
              case atStart => exact ⟨0, 0, Nat.zero_le _, rfl, rfl, rfl, by omega, Below.refl _ _⟩
              case round =>
                obtain ⟨k, t, hk, rfl, rfl, ht, ht20, hbr⟩ := hrel
                have HT := Lib.hid ht
                clear ht
                by_cases hlt : k < q
                · have hkm : k < M.length := by rw [HMQ.out]; exact hlt
                  obtain ⟨m1, m2, m3, m4⟩ := LAW4.out k hkm
                  obtain ⟨av, hav⟩ : ∃ av, M[k] = av := ⟨_, rfl⟩
                  obtain ⟨cnt, hcnt⟩ : ∃ cnt, (P.ads gs).count (M.getD k 0) = cnt := ⟨_, rfl⟩
                  rw [hav] at m1 m2
                  rw [hcnt] at m2 m3 m4
                  have hrw := own_below HROW.out hbr
                  obtain ⟨g6, cc6, hv6, _⟩ := own_form hrw (by omega)
                  injection hv6 with hA6 _ hc6
                  subst hA6 hc6
                  have hcell : wr.cell? ⟨g6, k, none⟩ = some (.int .i64 av) := by rw [hrw.cellAt k (by omega), vi_at hkm, hav]
                  have M1 := Lib.hid m1
                  have M2 := Lib.hid m2
                  have HS := Lib.hid (show P.csTo (P.ads gs) M (k + 1) = t + cnt by rw [P.csTo, HT.out, hcnt])
                  have HH9 := Lib.hid (holds_belowU HH8.out hbr)
                  have hc0 : ((cnt : Int) == 0) = false := by rw [beq_eq_false_iff_ne]; omega
                  clear hrw m1 m2 hav hcnt
                  go_wp2_with fail
                  refine (c_implFramesOf A5 n5 c5 gs av _ HGS.out (by unfold maxLen; omega) HH9.out).mono ?_
                  rintro e v9 hr
                  rw [M1.out] at hr
                  obtain ⟨A9, c9, rfl, _, hv9⟩ := rowi_of2 hr
                  rw [M2.out]
                  have hbr9 := hbr.trans (hv9.mono hbr.size)
                  clear hr hv9
                  go_wp2
                  go_roundw
                  case rel => exact ⟨k + 1, t + cnt, by omega, by go_num, by go_num, HS.out, by omega, hbr9⟩
                  case measure => simp [intOf]; omega
                · have HE := Lib.hid (show t = n5 by rw [← HT.out, show k = q by omega, ← HMQ.out]; exact LAW1.out)
                  have hbb := hV8.trans (hbr.mono hV8.size)
                  have hte : ((t : Int) == (n5 : Int)) = true := by rw [HE.out]; simp
                  go_wp2
                  go_ret
                  exact ⟨ret_bool (by first | rfl | exact hte | simp [hte]), hbb⟩
          · clear hne
            go_wp2_with fail
            refine (c_DrawFramesOf A n c l _ HL.out hn (holds_belowU HH.out hB4)).mono ?_
            rintro e v1 ⟨A1, n1, c1, fs, ad, hfs, hn1, rfl, hh1, hv1⟩
            have HFS := Lib.hid hfs
            have HH1 := Lib.hid hh1
            obtain ⟨L, hL⟩ : ∃ L, P.foL fs ad = L := ⟨_, rfl⟩
            obtain ⟨ok, hok⟩ : ∃ ok, P.foOk fs ad = ok := ⟨_, rfl⟩
            have hLl : L.length ≤ 30 := by
              have := P.foTo_le (P.ads fs) ad fs.length
              rw [← hL]; unfold P.foL
              split
              · omega
              · simp
            have hV1 := hB4.trans (hv1.mono hB4.size)
            clear hfs hh1 hv1 hB4
            go_wp2_with fail
            refine (c_implFramesOf A1 n1 c1 fs ad _ HFS.out (by unfold maxLen; omega) HH1.out).mono ?_
            rintro e v2 hr
            rw [hL, hok] at hr
            obtain ⟨A2, c2, rfl, ho2, hv2⟩ := rowi_of2 hr
            have HR2 := Lib.hid ho2
            have HH2 := Lib.hid (holds_belowU HH1.out hv2)
            have hV2 := hV1.trans (hv2.mono hV1.size)
            clear hr ho2 hv2 hV1
            go_wp2_with fail
            refine (c_specFramesOf A1 n1 c1 fs ad _ HFS.out (by unfold maxLen; omega) HH2.out).mono ?_
            rintro e v3 hr
            rw [hL, hok] at hr
            obtain ⟨A3, c3, rfl, ho3, hv3⟩ := rowi_of2 hr
            have HR3 := Lib.hid ho3
            have HR2' := Lib.hid (own_below HR2.out hv3)
            have hV3 := hV2.trans (hv3.mono hV2.size)
            clear hr ho3 hv3 hV2 hL hok
            go_wp2_with fail
            refine (c_vInts A2 A3 c2 c3 L _ (holds_own HR2'.out) (holds_own HR3.out) (by omega)).mono ?_
            rintro e v4 ⟨rfl, hq4⟩
            have hV4 := hV3.trans ((hq4.below v3.heap.size).mono hV3.size)
            clear hq4 hV3 HR2 HR2' HR3 HH1 HH2
            go_wp2_with fail
            refine (c_DrawAddressesOf A n c l _ HL.out hn (holds_belowU HH.out hV4)).mono ?_
            rintro e v5 ⟨A5, n5, c5, gs, hgs, hn5, rfl, hh5, hv5⟩
            have HGS := Lib.hid hgs
            have HH5 := Lib.hid hh5
            have hV5 := hV4.trans (hv5.mono hV4.size)
            clear hgs hh5 hv5 hV4
            obtain ⟨ok5, hok5⟩ : ∃ ok, P.fsOk gs = ok := ⟨_, rfl⟩
            obtain ⟨M, hM⟩ : ∃ M, P.aoL gs = M := ⟨_, rfl⟩
            have hMl : M.length ≤ 30 := by
              have := P.adTo_len (P.ads gs) gs.length
              have := HGS.out
              rw [← hM]; unfold P.aoL
              split
              · omega
              · simp
            have HOK5 := Lib.hid hok5
            have HM := Lib.hid hM
            clear hok5 hM
            cases ok5 with
            | false =>
              have hM0 : M = [] := by rw [← HM.out]; exact ao_no HOK5.out
              subst hM0
              go_wp2_with fail
              refine (c_implAddressesOf A5 n5 c5 gs _ HGS.out (by unfold maxLen; omega) HH5.out).mono ?_
              rintro e v6 hr
              rw [HM.out, HOK5.out] at hr
              obtain ⟨A6, c6, rfl, ho6, hv6⟩ := rowi_of2 hr
              have HR6 := Lib.hid ho6
              have HH6 := Lib.hid (holds_belowU HH5.out hv6)
              have hV6 := hV5.trans (hv6.mono hV5.size)
              clear hr ho6 hv6 hV5
              go_wp2_with fail
              refine (c_specAddressesOf A5 n5 c5 gs _ HGS.out (by unfold maxLen; omega) HH6.out).mono ?_
              rintro e v7 hr
              rw [HM.out, HOK5.out] at hr
              obtain ⟨A7, c7, rfl, ho7, hv7⟩ := rowi_of2 hr
              have HR7 := Lib.hid ho7
              have HR6' := Lib.hid (own_below HR6.out hv7)
              have HH7 := Lib.hid (holds_belowU HH6.out hv7)
              have hV7 := hV6.trans (hv7.mono hV6.size)
              clear hr ho7 hv7 hV6
              go_wp2_with fail
              refine (c_vInts A6 A7 c6 c7 _ _ (holds_own HR6'.out) (holds_own HR7.out) (by omega)).mono ?_
              rintro e v8 ⟨rfl, hq8⟩
              have hv8 := hq8.below v7.heap.size
              have HR6'' := Lib.hid (own_below HR6'.out hv8)
              have HH8 := Lib.hid (holds_belowU HH7.out hv8)
              have hV8 := hV7.trans (hv8.mono hV7.size)
              clear hq8 hv8 hV7 HR6 HR6' HR7 HH5 HH6 HH7
              have hlen : ([] : List Int).length = 0 := rfl
              go_wp2
              refine wp_loop_rounds 1 ?_
              rw [rounds_succ]
              go_wp2
              go_ret
              exact ⟨rfl, hV8⟩
            | true =>
              obtain ⟨law1, law2, law3, law4⟩ := P.ao_law HOK5.out
              rw [HM.out] at law1 law2
              have LAW4 := Lib.hid (show ∀ k (hk : k < M.length), P.foOk gs M[k] = true ∧ (P.foL gs M[k]).length = (P.ads gs).count (M.getD k 0) ∧ 0 < (P.ads gs).count (M.getD k 0) ∧ (P.ads gs).count (M.getD k 0) ≤ 20 by
                have e := HM.out
                subst e
                exact law4)
              have LAW1 := Lib.hid (law1.trans HGS.out)
              clear law1 law3 law4
              go_wp2_with fail
              refine (c_implAddressesOf A5 n5 c5 gs _ HGS.out (by unfold maxLen; omega) HH5.out).mono ?_
              rintro e v6 hr
              rw [HM.out, HOK5.out] at hr
              obtain ⟨A6, c6, rfl, ho6, hv6⟩ := rowi_of2 hr
              have HR6 := Lib.hid ho6
              have HH6 := Lib.hid (holds_belowU HH5.out hv6)
              have hV6 := hV5.trans (hv6.mono hV5.size)
              clear hr ho6 hv6 hV5
              go_wp2_with fail
              refine (c_specAddressesOf A5 n5 c5 gs _ HGS.out (by unfold maxLen; omega) HH6.out).mono ?_
              rintro e v7 hr
              rw [HM.out, HOK5.out] at hr
              obtain ⟨A7, c7, rfl, ho7, hv7⟩ := rowi_of2 hr
              have HR7 := Lib.hid ho7
              have HR6' := Lib.hid (own_below HR6.out hv7)
              have HH7 := Lib.hid (holds_belowU HH6.out hv7)
              have hV7 := hV6.trans (hv7.mono hV6.size)
              clear hr ho7 hv7 hV6
              go_wp2_with fail
              refine (c_vInts A6 A7 c6 c7 _ _ (holds_own HR6'.out) (holds_own HR7.out) (by omega)).mono ?_
              rintro e v8 ⟨rfl, hq8⟩
              have hv8 := hq8.below v7.heap.size
              have HR6'' := Lib.hid (own_below HR6'.out hv8)
              have HH8 := Lib.hid (holds_belowU HH7.out hv8)
              have hV8 := hV7.trans (hv8.mono hV7.size)
              clear hq8 hv8 hV7 HR6 HR6' HR7 HH5 HH6 HH7
              obtain ⟨q, hq⟩ : ∃ q, M.length = q := ⟨_, rfl⟩
              have HROW := Lib.hid (show v8.ownsRow v5.heap.size 3 1 (.slice A6 q c6) q (vi M) by rw [← hq]; exact HR6''.out)
              rw [hq] at law2 hMl ⊢
              have HMQ := Lib.hid hq
              clear hq
              have hV8' := hV8
              go_wp2
              go_loopw [22, 23] (fun ct i wr => ∃ k t : Nat, k ≤ q ∧ i = .int .i64 k ∧ ct = .int .i64 t ∧ P.csTo (P.ads gs) M k = t ∧ t ≤ 20 * k ∧ Below v8.heap.size v8 wr) (fun _ i _ => q - (intOf i).toNat)
              case atStart => exact ⟨0, 0, Nat.zero_le _, rfl, rfl, rfl, by omega, Below.refl _ _⟩
              case round =>
                obtain ⟨k, t, hk, rfl, rfl, ht, ht20, hbr⟩ := hrel
                have HT := Lib.hid ht
                clear ht
                by_cases hlt : k < q
                · have hkm : k < M.length := by rw [HMQ.out]; exact hlt
                  obtain ⟨m1, m2, m3, m4⟩ := LAW4.out k hkm
                  obtain ⟨av, hav⟩ : ∃ av, M[k] = av := ⟨_, rfl⟩
                  obtain ⟨cnt, hcnt⟩ : ∃ cnt, (P.ads gs).count (M.getD k 0) = cnt := ⟨_, rfl⟩
                  rw [hav] at m1 m2
                  rw [hcnt] at m2 m3 m4
                  have hrw := own_below HROW.out hbr
                  obtain ⟨g6, cc6, hv6, _⟩ := own_form hrw (by omega)
                  injection hv6 with hA6 _ hc6
                  subst hA6 hc6
                  have hcell : wr.cell? ⟨g6, k, none⟩ = some (.int .i64 av) := by rw [hrw.cellAt k (by omega), vi_at hkm, hav]
                  have M1 := Lib.hid m1
                  have M2 := Lib.hid m2
                  have HS := Lib.hid (show P.csTo (P.ads gs) M (k + 1) = t + cnt by rw [P.csTo, HT.out, hcnt])
                  have HH9 := Lib.hid (holds_belowU HH8.out hbr)
                  have hc0 : ((cnt : Int) == 0) = false := by rw [beq_eq_false_iff_ne]; omega
                  clear hrw m1 m2 hav hcnt
                  go_wp2_with fail
                  refine (c_implFramesOf A5 n5 c5 gs av _ HGS.out (by unfold maxLen; omega) HH9.out).mono ?_
                  rintro e v9 hr
                  rw [M1.out] at hr
                  obtain ⟨A9, c9, rfl, _, hv9⟩ := rowi_of2 hr
                  rw [M2.out]
                  have hbr9 := hbr.trans (hv9.mono hbr.size)
                  clear hr hv9
                  go_wp2
                  go_roundw
                  case rel => exact ⟨k + 1, t + cnt, by omega, by go_num, by go_num, HS.out, by omega, hbr9⟩
                  case measure => simp [intOf]; omega
                · have HE := Lib.hid (show t = n5 by rw [← HT.out, show k = q by omega, ← HMQ.out]; exact LAW1.out)
                  have hbb := hV8.trans (hbr.mono hV8.size)
                  have hte : ((t : Int) == (n5 : Int)) = true := by rw [HE.out]; simp
                  go_wp2
                  go_ret
                  exact ⟨ret_bool (by first | rfl | exact hte | simp [hte]), hbb⟩
        · clear hne
          go_wp2_with fail
          refine (c_DrawFramesOf A n c l _ HL.out hn (holds_belowU HH.out hB4)).mono ?_
          rintro e v1 ⟨A1, n1, c1, fs, ad, hfs, hn1, rfl, hh1, hv1⟩
          have HFS := Lib.hid hfs
          have HH1 := Lib.hid hh1
          obtain ⟨L, hL⟩ : ∃ L, P.foL fs ad = L := ⟨_, rfl⟩
          obtain ⟨ok, hok⟩ : ∃ ok, P.foOk fs ad = ok := ⟨_, rfl⟩
          have hLl : L.length ≤ 30 := by
            have := P.foTo_le (P.ads fs) ad fs.length
            rw [← hL]; unfold P.foL
            split
            · omega
            · simp
          have hV1 := hB4.trans (hv1.mono hB4.size)
          clear hfs hh1 hv1 hB4
          go_wp2_with fail
          refine (c_implFramesOf A1 n1 c1 fs ad _ HFS.out (by unfold maxLen; omega) HH1.out).mono ?_
          rintro e v2 hr
          rw [hL, hok] at hr
          obtain ⟨A2, c2, rfl, ho2, hv2⟩ := rowi_of2 hr
          have HR2 := Lib.hid ho2
          have HH2 := Lib.hid (holds_belowU HH1.out hv2)
          have hV2 := hV1.trans (hv2.mono hV1.size)
          clear hr ho2 hv2 hV1
          go_wp2_with fail
          refine (c_specFramesOf A1 n1 c1 fs ad _ HFS.out (by unfold maxLen; omega) HH2.out).mono ?_
          rintro e v3 hr
          rw [hL, hok] at hr
          obtain ⟨A3, c3, rfl, ho3, hv3⟩ := rowi_of2 hr
          have HR3 := Lib.hid ho3
          have HR2' := Lib.hid (own_below HR2.out hv3)
          have hV3 := hV2.trans (hv3.mono hV2.size)
          clear hr ho3 hv3 hV2 hL hok
          go_wp2_with fail
          refine (c_vInts A2 A3 c2 c3 L _ (holds_own HR2'.out) (holds_own HR3.out) (by omega)).mono ?_
          rintro e v4 ⟨rfl, hq4⟩
          have hV4 := hV3.trans ((hq4.below v3.heap.size).mono hV3.size)
          clear hq4 hV3 HR2 HR2' HR3 HH1 HH2
          go_wp2_with fail
          refine (c_DrawAddressesOf A n c l _ HL.out hn (holds_belowU HH.out hV4)).mono ?_
          rintro e v5 ⟨A5, n5, c5, gs, hgs, hn5, rfl, hh5, hv5⟩
          have HGS := Lib.hid hgs
          have HH5 := Lib.hid hh5
          have hV5 := hV4.trans (hv5.mono hV4.size)
          clear hgs hh5 hv5 hV4
          obtain ⟨ok5, hok5⟩ : ∃ ok, P.fsOk gs = ok := ⟨_, rfl⟩
          obtain ⟨M, hM⟩ : ∃ M, P.aoL gs = M := ⟨_, rfl⟩
          have hMl : M.length ≤ 30 := by
            have := P.adTo_len (P.ads gs) gs.length
            have := HGS.out
            rw [← hM]; unfold P.aoL
            split
            · omega
            · simp
          have HOK5 := Lib.hid hok5
          have HM := Lib.hid hM
          clear hok5 hM
          cases ok5 with
          | false =>
            have hM0 : M = [] := by rw [← HM.out]; exact ao_no HOK5.out
            subst hM0
            go_wp2_with fail
            refine (c_implAddressesOf A5 n5 c5 gs _ HGS.out (by unfold maxLen; omega) HH5.out).mono ?_
            rintro e v6 hr
            rw [HM.out, HOK5.out] at hr
            obtain ⟨A6, c6, rfl, ho6, hv6⟩ := rowi_of2 hr
            have HR6 := Lib.hid ho6
            have HH6 := Lib.hid (holds_belowU HH5.out hv6)
            have hV6 := hV5.trans (hv6.mono hV5.size)
            clear hr ho6 hv6 hV5
            go_wp2_with fail
            refine (c_specAddressesOf A5 n5 c5 gs _ HGS.out (by unfold maxLen; omega) HH6.out).mono ?_
            rintro e v7 hr
            rw [HM.out, HOK5.out] at hr
            obtain ⟨A7, c7, rfl, ho7, hv7⟩ := rowi_of2 hr
            have HR7 := Lib.hid ho7
            have HR6' := Lib.hid (own_below HR6.out hv7)
            have HH7 := Lib.hid (holds_belowU HH6.out hv7)
            have hV7 := hV6.trans (hv7.mono hV6.size)
            clear hr ho7 hv7 hV6
            go_wp2_with fail
            refine (c_vInts A6 A7 c6 c7 _ _ (holds_own HR6'.out) (holds_own HR7.out) (by omega)).mono ?_
            rintro e v8 ⟨rfl, hq8⟩
            have hv8 := hq8.below v7.heap.size
            have HR6'' := Lib.hid (own_below HR6'.out hv8)
            have HH8 := Lib.hid (holds_belowU HH7.out hv8)
            have hV8 := hV7.trans (hv8.mono hV7.size)
            clear hq8 hv8 hV7 HR6 HR6' HR7 HH5 HH6 HH7
            have hlen : ([] : List Int).length = 0 := rfl
            go_wp2
            refine wp_loop_rounds 1 ?_
            rw [rounds_succ]
            go_wp2
            go_ret
            exact ⟨rfl, hV8⟩
          | true =>
            obtain ⟨law1, law2, law3, law4⟩ := P.ao_law HOK5.out
            rw [HM.out] at law1 law2
            have LAW4 := Lib.hid (show ∀ k (hk : k < M.length), P.foOk gs M[k] = true ∧ (P.foL gs M[k]).length = (P.ads gs).count (M.getD k 0) ∧ 0 < (P.ads gs).count (M.getD k 0) ∧ (P.ads gs).count (M.getD k 0) ≤ 20 by
              have e := HM.out
              subst e
              exact law4)
            have LAW1 := Lib.hid (law1.trans HGS.out)
            clear law1 law3 law4
            go_wp2_with fail
            refine (c_implAddressesOf A5 n5 c5 gs _ HGS.out (by unfold maxLen; omega) HH5.out).mono ?_
            rintro e v6 hr
            rw [HM.out, HOK5.out] at hr
            obtain ⟨A6, c6, rfl, ho6, hv6⟩ := rowi_of2 hr
            have HR6 := Lib.hid ho6
            have HH6 := Lib.hid (holds_belowU HH5.out hv6)
            have hV6 := hV5.trans (hv6.mono hV5.size)
            clear hr ho6 hv6 hV5
            go_wp2_with fail
            refine (c_specAddressesOf A5 n5 c5 gs _ HGS.out (by unfold maxLen; omega) HH6.out).mono ?_
            rintro e v7 hr
            rw [HM.out, HOK5.out] at hr
            obtain ⟨A7, c7, rfl, ho7, hv7⟩ := rowi_of2 hr
            have HR7 := Lib.hid ho7
            have HR6' := Lib.hid (own_below HR6.out hv7)
            have HH7 := Lib.hid (holds_belowU HH6.out hv7)
            have hV7 := hV6.trans (hv7.mono hV6.size)
            clear hr ho7 hv7 hV6
            go_wp2_with fail
            refine (c_vInts A6 A7 c6 c7 _ _ (holds_own HR6'.out) (holds_own HR7.out) (by omega)).mono ?_
            rintro e v8 ⟨rfl, hq8⟩
            have hv8 := hq8.below v7.heap.size
            have HR6'' := Lib.hid (own_below HR6'.out hv8)
            have HH8 := Lib.hid (holds_belowU HH7.out hv8)
            have hV8 := hV7.trans (hv8.mono hV7.size)
            clear hq8 hv8 hV7 HR6 HR6' HR7 HH5 HH6 HH7
            obtain ⟨q, hq⟩ : ∃ q, M.length = q := ⟨_, rfl⟩
            have HROW := Lib.hid (show v8.ownsRow v5.heap.size 3 1 (.slice A6 q c6) q (vi M) by rw [← hq]; exact HR6''.out)
            rw [hq] at law2 hMl ⊢
            have HMQ := Lib.hid hq
            clear hq
            have hV8' := hV8
            go_wp2
            go_loopw [22, 23] (fun ct i wr => ∃ k t : Nat, k ≤ q ∧ i = .int .i64 k ∧ ct = .int .i64 t ∧ P.csTo (P.ads gs) M k = t ∧ t ≤ 20 * k ∧ Below v8.heap.size v8 wr) (fun _ i _ => q - (intOf i).toNat)
            case atStart => exact ⟨0, 0, Nat.zero_le _, rfl, rfl, rfl, by omega, Below.refl _ _⟩
            case round =>
              obtain ⟨k, t, hk, rfl, rfl, ht, ht20, hbr⟩ := hrel
              have HT := Lib.hid ht
              clear ht
              by_cases hlt : k < q
              · have hkm : k < M.length := by rw [HMQ.out]; exact hlt
                obtain ⟨m1, m2, m3, m4⟩ := LAW4.out k hkm
                obtain ⟨av, hav⟩ : ∃ av, M[k] = av := ⟨_, rfl⟩
                obtain ⟨cnt, hcnt⟩ : ∃ cnt, (P.ads gs).count (M.getD k 0) = cnt := ⟨_, rfl⟩
                rw [hav] at m1 m2
                rw [hcnt] at m2 m3 m4
                have hrw := own_below HROW.out hbr
                obtain ⟨g6, cc6, hv6, _⟩ := own_form hrw (by omega)
                injection hv6 with hA6 _ hc6
                subst hA6 hc6
                have hcell : wr.cell? ⟨g6, k, none⟩ = some (.int .i64 av) := by rw [hrw.cellAt k (by omega), vi_at hkm, hav]
                have M1 := Lib.hid m1
                have M2 := Lib.hid m2
                have HS := Lib.hid (show P.csTo (P.ads gs) M (k + 1) = t + cnt by rw [P.csTo, HT.out, hcnt])
                have HH9 := Lib.hid (holds_belowU HH8.out hbr)
                have hc0 : ((cnt : Int) == 0) = false := by rw [beq_eq_false_iff_ne]; omega
                clear hrw m1 m2 hav hcnt
                go_wp2_with fail
                refine (c_implFramesOf A5 n5 c5 gs av _ HGS.out (by unfold maxLen; omega) HH9.out).mono ?_
                rintro e v9 hr
                rw [M1.out] at hr
                obtain ⟨A9, c9, rfl, _, hv9⟩ := rowi_of2 hr
                rw [M2.out]
                have hbr9 := hbr.trans (hv9.mono hbr.size)
                clear hr hv9
                go_wp2
                go_roundw
                case rel => exact ⟨k + 1, t + cnt, by omega, by go_num, by go_num, HS.out, by omega, hbr9⟩
                case measure => simp [intOf]; omega
              · have HE := Lib.hid (show t = n5 by rw [← HT.out, show k = q by omega, ← HMQ.out]; exact LAW1.out)
                have hbb := hV8.trans (hbr.mono hV8.size)
                have hte : ((t : Int) == (n5 : Int)) = true := by rw [HE.out]; simp
                go_wp2
                go_ret
                exact ⟨ret_bool (by first | rfl | exact hte | simp [hte]), hbb⟩
  · go_enter Try.func9, Try.ntmps9
    go_wp2_with (go_at_call 15; refine (c_vBig A n c _).mono ?_; rintro e w' ⟨rfl, rfl⟩)
    go_ret
    exact ⟨rfl, Below.refl _ _⟩
end Go.Proofs.Ytfbanjmooknafaa
