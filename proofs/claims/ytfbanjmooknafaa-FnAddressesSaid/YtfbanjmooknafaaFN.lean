/-
  Contracts of AddressesOf.
-/
import Derived.Test.YtfbanjmooknafaaFM
namespace Go.Proofs.Ytfbanjmooknafaa
open Go.RowKit
set_option linter.unusedSimpArgs false
set_option linter.unusedVariables false
set_option maxRecDepth 100000

theorem ao_no {fs : List P.Fr} (h : P.fsOk fs = false) : P.aoL fs = [] := by unfold P.aoL; rw [h]; rfl
theorem adTo_next {fs : List P.Fr} {k : Nat} {x y z : Int} (hk : k < fs.length) (h : fs[k] = (x, y, z)) : P.adTo (P.ads fs) (k + 1) = P.putI (P.adTo (P.ads fs) k) y := by rw [P.adTo, ads_at hk h]
theorem c_implAddressesOf (A : Option Addr) (n c : Nat) (fs : List P.Fr) (w : World) (hl : fs.length = n) (hn : n ≤ maxLen) (h : Holds w A (fcs fs)) : Calls Try.prog 84 #[.slice A n c] w (RetRowB 3 w (vi (P.aoL fs)) (P.fsOk fs)) := by
  have HN := Lib.hid hn
  have HL := Lib.hid hl
  have HH := Lib.hid h
  obtain ⟨b, ho⟩ : ∃ b, P.fsOk fs = b := ⟨_, rfl⟩
  have HO := Lib.hid ho
  cases b with
  | false =>
    clear h hl hn ho
    go_enter Try.func84, Try.ntmps84
    go_wp2_with fail
    refine (c_areFrames A n c fs _ HL.out HN.out HH.out).mono ?_
    rintro e w1 ⟨rfl, hb1⟩
    rw [HO.out]
    go_wp2
    go_ret2
    exact ret_rowi (by rw [ao_no HO.out]; rfl) HO.out.symm (by rw [ao_no HO.out]; exact World.ownsRow_nil _ _ _ _) hb1
  | true =>
    have hn20 : n ≤ 20 := by
      rw [fsOk_eq, Bool.and_eq_true, decide_eq_true_eq] at ho
      omega
    clear h hl hn ho
    go_enter Try.func84, Try.ntmps84
    go_wp2_with fail
    refine (c_areFrames A n c fs _ HL.out HN.out HH.out).mono ?_
    rintro e w1 ⟨rfl, hb1⟩
    rw [HO.out]
    go_wp2
    go_loopw [4, 12] (fun v i wr => ∃ (k q cp : Nat) (A' : Option Addr), k ≤ n ∧ i = .int .i64 k ∧ q ≤ k ∧ (P.adTo (P.ads fs) k).length = q ∧ v = .slice A' q cp ∧ wr.ownsRow w.heap.size 3 1 (.slice A' q cp) q (vi (P.adTo (P.ads fs) k)) ∧ Below w.heap.size w wr) (fun _ i _ => n - (intOf i).toNat)
    case atStart => exact ⟨0, 0, 0, none, Nat.zero_le _, rfl, Nat.le_refl _, rfl, rfl, World.ownsRow_nil _ _ _ _, hb1⟩
    case round =>
      obtain ⟨k, q, cp, A', hk, rfl, hqk, hq, rfl, hown, hb⟩ := hrel
      have HQ := Lib.hid hq
      clear hq
      by_cases hlt : k < n
      · have HLF := Lib.hid (show k < fs.length by rw [HL.out]; exact hlt)
        obtain ⟨g, o, rfl, k0, k1, k2⟩ := fcells HH.out (k := k) (by rw [HL.out]; exact hlt)
        obtain ⟨f, hf⟩ : ∃ f, fs[k]'(by rw [HL.out]; exact hlt) = f := ⟨_, rfl⟩
        rw [hf] at k0 k1 k2
        obtain ⟨x, y, z⟩ := f
        simp only at k0 k1 k2
        have HF := Lib.hid hf
        have hgl := World.block_lt_of_cell? w _ k0
        have j0 := (hb.cell (p := ⟨g, o + k * 3, none⟩) hgl).trans k0
        have j1 := (hb.cell (p := ⟨g, o + k * 3 + 1, none⟩) hgl).trans k1
        have j2 := (hb.cell (p := ⟨g, o + k * 3 + 2, none⟩) hgl).trans k2
        clear k0 k1 k2 hf
        have hA := (Below.refl (wr).heap.size wr).alloc (Nat.le_refl _) (.cells #[.int .i64 x, .int .i64 y, .int .i64 z] 57)
        have hX := Box.new wr x y z 57
        obtain ⟨W1, hW⟩ : ∃ W, (wr).alloc (.cells #[.int .i64 x, .int .i64 y, .int .i64 z] 57) = W := ⟨_, rfl⟩
        rw [hW] at hA hX
        have XF := Lib.hid hX
        have hB := (hb).trans (hA.mono (hb).size)
        clear hX
        have HO1 := Lib.hid (own_below hown hA)
        obtain ⟨⟨q0, q1, q2⟩, _, _, _⟩ := XF.out
        have HS := Lib.hid (adTo_next HLF.out HF.out)
        have hsz := hB.size
        clear hown
        go_wp2_with fail
        clear hW q0 q1 q2
        refine (c_putInt A' q cp (P.adTo (P.ads fs) k) y w.heap.size _ HQ.out (by omega) hsz (P.adTo_asc _ _) HO1.out).mono ?_
        rintro e w2 ⟨A2, cp2, rfl, hown2, hb2⟩
        rw [← HS.out] at hown2 ⊢
        have hlen := P.adTo_len (P.ads fs) (k + 1)
        obtain ⟨q2, hq2⟩ : ∃ q2, (P.adTo (P.ads fs) (k + 1)).length = q2 := ⟨_, rfl⟩
        rw [hq2] at hown2 hlen ⊢
        have HQ2 := Lib.hid hq2
        have HO2 := Lib.hid hown2
        have hB2 := hB.trans hb2
        clear hown2 hq2 hb2
        go_wp2
        go_roundw
        case rel => exact ⟨k + 1, q2, cp2, A2, by omega, by go_num, by omega, HQ2.out, rfl, HO2.out, hB2⟩
        case measure => simp [intOf]; omega
      · have HE := Lib.hid (show P.aoL fs = P.adTo (P.ads fs) k by
          unfold P.aoL
          rw [if_pos HO.out, HL.out, show k = n by omega])
        go_wp2
        go_ret2
        exact ret_rowi (by rw [HE.out, HQ.out]) HO.out.symm (by rw [HE.out]; exact hown) hb
theorem c_specAddressesOf (A : Option Addr) (n c : Nat) (fs : List P.Fr) (w : World) (hl : fs.length = n) (hn : n ≤ maxLen) (h : Holds w A (fcs fs)) : Calls Try.prog 85 #[.slice A n c] w (RetRowB 3 w (vi (P.aoL fs)) (P.fsOk fs)) := by
  have HN := Lib.hid hn
  have HL := Lib.hid hl
  have hM := (Below.refl w.heap.size w).alloc (Nat.le_refl _) (.cells #[] 3)
  have hO0 : (w.alloc (.cells #[] 3)).ownsRow w.heap.size 3 1 (.slice (some ⟨w.heap.size, 0, none⟩) 0 0) 0 [] := World.ownsRow_made _ _ _ (Nat.le_refl _) (by unfold maxLen; omega) rfl
  obtain ⟨W0, hW0⟩ : ∃ W0, w.alloc (.cells #[] 3) = W0 := ⟨_, rfl⟩
  rw [hW0] at hM hO0
  have HO0 := Lib.hid hO0
  have HH0 := Lib.hid (holds_belowF h hM)
  have HH := Lib.hid h
  clear hO0
  obtain ⟨b, ho⟩ : ∃ b, P.fsOk fs = b := ⟨_, rfl⟩
  have HO := Lib.hid ho
  cases b with
  | false =>
    clear h hl hn ho
    go_enter Try.func85, Try.ntmps85
    go_wp2_with fail
    clear hW0
    refine (c_l5List A n c fs _ HL.out HN.out HH0.out).mono ?_
    rintro e w1 ⟨rfl, hb1⟩
    rw [HO.out]
    have hB1 := hM.trans (hb1.mono hM.size)
    have HO1 := Lib.hid (own_below HO0.out hb1)
    go_wp2
    go_ret2
    exact ret_rowi (by rw [ao_no HO.out]; rfl) HO.out.symm (by rw [ao_no HO.out]; exact HO1.out) hB1
  | true =>
    have hn20 : n ≤ 20 := by
      rw [fsOk_eq, Bool.and_eq_true, decide_eq_true_eq] at ho
      omega
    clear h hl hn ho
    go_enter Try.func85, Try.ntmps85
    go_wp2_with fail
    clear hW0
    refine (c_l5List A n c fs _ HL.out HN.out HH0.out).mono ?_
    rintro e w1 ⟨rfl, hb1⟩
    rw [HO.out]
    have hB1 := hM.trans (hb1.mono hM.size)
    have HO1 := Lib.hid (own_below HO0.out hb1)
    go_wp2
    go_loopw [4, 5] (fun v i wr => ∃ (k q cp g' : Nat), k ≤ n ∧ i = .int .i64 k ∧ q ≤ k ∧ (P.adTo (P.ads fs) k).length = q ∧ v = .slice (some ⟨g', 0, none⟩) q cp ∧ wr.ownsRow w.heap.size 3 1 (.slice (some ⟨g', 0, none⟩) q cp) q (vi (P.adTo (P.ads fs) k)) ∧ Below w.heap.size w wr) (fun _ i _ => n - (intOf i).toNat)
    case atStart => exact ⟨0, 0, 0, _, Nat.zero_le _, rfl, Nat.le_refl _, rfl, rfl, HO1.out, hB1⟩
    case round =>
      obtain ⟨k, q, cp, g', hk, rfl, hqk, hq, rfl, hown, hb⟩ := hrel
      have HQ := Lib.hid hq
      clear hq
      by_cases hlt : k < n
      · have HLF := Lib.hid (show k < fs.length by rw [HL.out]; exact hlt)
        obtain ⟨g, o, rfl, k0, k1, k2⟩ := fcells HH.out (k := k) (by rw [HL.out]; exact hlt)
        obtain ⟨f, hf⟩ : ∃ f, fs[k]'(by rw [HL.out]; exact hlt) = f := ⟨_, rfl⟩
        rw [hf] at k0 k1 k2
        obtain ⟨x, y, z⟩ := f
        simp only at k0 k1 k2
        have HF := Lib.hid hf
        have hgl := World.block_lt_of_cell? w _ k0
        have j0 := (hb.cell (p := ⟨g, o + k * 3, none⟩) hgl).trans k0
        have j1 := (hb.cell (p := ⟨g, o + k * 3 + 1, none⟩) hgl).trans k1
        have j2 := (hb.cell (p := ⟨g, o + k * 3 + 2, none⟩) hgl).trans k2
        clear k0 k1 k2 hf
        have HO1 := Lib.hid hown
        have HS := Lib.hid (adTo_next HLF.out HF.out)
        have hsz := hb.size
        clear hown
        go_wp2_with fail
        refine (c_l1Put g' q cp (P.adTo (P.ads fs) k) y w.heap.size _ HQ.out (by omega) hsz (P.adTo_asc _ _) HO1.out).mono ?_
        rintro e w2 ⟨g2, cp2, rfl, hown2, hb2⟩
        rw [← HS.out] at hown2 ⊢
        have hlen := P.adTo_len (P.ads fs) (k + 1)
        obtain ⟨q2, hq2⟩ : ∃ q2, (P.adTo (P.ads fs) (k + 1)).length = q2 := ⟨_, rfl⟩
        rw [hq2] at hown2 hlen ⊢
        have HQ2 := Lib.hid hq2
        have HO2 := Lib.hid hown2
        have hB2 := hb.trans hb2
        clear hown2 hq2 hb2
        go_wp2
        go_roundw
        case rel => exact ⟨k + 1, q2, cp2, g2, by omega, by go_num, by omega, HQ2.out, rfl, HO2.out, hB2⟩
        case measure => simp [intOf]; omega
      · have HE := Lib.hid (show P.aoL fs = P.adTo (P.ads fs) k by
          unfold P.aoL
          rw [if_pos HO.out, HL.out, show k = n by omega])
        go_wp2
        go_ret2
        exact ret_rowi (by rw [HE.out, HQ.out]) HO.out.symm (by rw [HE.out]; exact hown) hb
end Go.Proofs.Ytfbanjmooknafaa
