/-
  The plain facts of the law on frames, and the list versions of its contracts.
-/
import Derived.Test.YtfbanjmooknafaaLP
import Derived.Test.YtfbanjmooknafaaDI
import Derived.Test.YtfbanjmooknafaaE8
import Derived.Test.YtfbanjmooknafaaPL
import Derived.Test.YtfbanjmooknafaaPF
namespace Go.Proofs.Ytfbanjmooknafaa
open Go.RowKit
set_option linter.unusedSimpArgs false
set_option linter.unusedVariables false
set_option maxRecDepth 100000

theorem spF_free {b : UInt8} : ∀ {y : List UInt8} (l : List UInt8), (∀ c ∈ y, c ≠ b) → P.spF b (l ++ y) = ((P.spF b l).1, (P.spF b l).2 ++ y) := by
  intro y
  induction y with
  | nil => intro l _; simp
  | cons c y ih =>
    intro l h
    have h1 := ih (l ++ [c]) (fun d hd => h d (by simp [hd]))
    rw [show l ++ c :: y = (l ++ [c]) ++ y by simp, h1, P.spF_snoc_ne _ (h c (by simp))]
    simp
theorem spl_three {b : UInt8} {x y z : List UInt8} (hx : ∀ c ∈ x, c ≠ b) (hy : ∀ c ∈ y, c ≠ b) (hz : ∀ c ∈ z, c ≠ b) : P.spl b ((((x ++ [b]) ++ y) ++ [b]) ++ z) = [x, y, z] := by
  have h1 := spF_free (b := b) [] hx
  rw [List.nil_append] at h1
  unfold P.spl
  rw [spF_free _ hz, P.spF_snoc_eq, spF_free _ hy, P.spF_snoc_eq, h1]
  simp [P.spF]
theorem hex_free (x : List UInt8) (hb : x.all P.bitB = true) (h : x.length % 4 = 0) : ∀ c ∈ P.hexL x, c ≠ 32 := by
  intro c hc e
  have h1 := (P.unhex_hexL hb h).2
  rw [List.all_eq_true] at h1
  have h2 := h1 c hc
  rw [e] at h2
  exact absurd h2 (by decide)
theorem kW_free (k : Nat) : ∀ c ∈ P.kW k, c ≠ 32 := by
  match k with
  | 0 => decide
  | 1 => decide
  | 2 => decide
  | 3 => decide
  | 4 => decide
  | k + 5 => intro c hc; cases hc
theorem pf_ftR {a b c : Nat} (ha : 1 ≤ a ∧ a ≤ 4) (hb : 1 ≤ b ∧ b ≤ 65535) (hc : c ≤ 16777215) : P.pfOk (P.ftR a b c) = true ∧ P.pfA (P.ftR a b c) = a ∧ P.pfB (P.ftR a b c) = b ∧ P.pfC (P.ftR a b c) = c := by
  have hw : P.spl 32 (P.ftR a b c) = [P.kW a, P.hexL (P.bitsL b 16), P.hexL (P.bitsL c 24)] :=
    spl_three (kW_free a) (hex_free _ (P.bitsL_bits _ _) (by rw [P.bitsL_len])) (hex_free _ (P.bitsL_bits _ _) (by rw [P.bitsL_len]))
  obtain ⟨u1, v1⟩ := P.unhex_hexL (P.bitsL_bits b 16) (by rw [P.bitsL_len])
  obtain ⟨u2, v2⟩ := P.unhex_hexL (P.bitsL_bits c 24) (by rw [P.bitsL_len])
  have n1 : P.numL (P.unhexL (P.hexL (P.bitsL b 16))) = b := by rw [u1, P.numL_bits (by omega)]
  have n2 : P.numL (P.unhexL (P.hexL (P.bitsL c 24))) = c := by rw [u2, P.numL_bits (by omega)]
  have h := P.pf_found hw (P.hex16 b) (P.hex24 c) (by unfold P.unhexOk; rw [v1, P.hex16]; rfl) (by unfold P.unhexOk; rw [v2, P.hex24]; rfl) rfl (by rw [n1, n2]; exact P.frB_iff.2 ⟨by omega, by omega, by omega, by omega⟩)
  rw [n1, n2] at h
  exact h
theorem fm_sound (a b c : Nat) : isB (fmL a b c) = true := by
  have ho : paOk (fm0 a b c) = true := by
    unfold paOk
    rw [Bool.and_eq_true, P.isBits_iff, decide_eq_true_eq, fm0_len]
    exact ⟨⟨by omega, fm0_bits a b c⟩, by omega⟩
  have h := (par1 ho).1
  have e : apS (fm0 a b c) = fmL a b c := by unfold apS; rw [ho]; rfl
  rw [e] at h; exact h
theorem fm_parts {a b c : Nat} (ha : a ≤ 15) (hb : b ≤ 65535) (hc : c ≤ 16777215) : foA (fmL a b c) = a ∧ foB (fmL a b c) = b ∧ foC (fmL a b c) = c := by
  have l1 := P.bitsL_len a 4
  have l2 := P.bitsL_len b 16
  have l3 := P.bitsL_len c 24
  have e1 : (fmL a b c).take 4 = P.bitsL a 4 := by
    unfold fmL fm0
    rw [List.append_assoc, List.append_assoc, List.take_left' l1]
  have e2 : (fmL a b c).drop 4 = P.bitsL b 16 ++ (P.bitsL c 24 ++ P.bitsL (P.parN (fm0 a b c)) 12) := by
    unfold fmL
    conv => lhs; unfold fm0
    rw [List.append_assoc, List.append_assoc, List.drop_left' l1]
    rfl
  have e3 : (fmL a b c).drop 20 = P.bitsL c 24 ++ P.bitsL (P.parN (fm0 a b c)) 12 := by
    have h : (fmL a b c).drop 20 = ((fmL a b c).drop 4).drop 16 := by rw [List.drop_drop]
    rw [h, e2, List.drop_left' l2]
  unfold foA foB foC
  rw [e1, e2, e3, List.take_left' l2, List.take_left' l3]
  exact ⟨P.numL_bits (by omega), P.numL_bits (by omega), P.numL_bits (by omega)⟩
theorem fm_do {a b c : Nat} (h : frOk a b c = true) : doOk (fmL a b c) = true ∧ doA (fmL a b c) = a ∧ doB (fmL a b c) = b ∧ doC (fmL a b c) = c := by
  obtain ⟨x, y, z, e1, e2, e3, h1, h2, h3⟩ := fr_nat h
  have e1 : a = x := by omega
  have e2 : b = y := by omega
  have e3 : c = z := by omega
  subst e1 e2 e3
  obtain ⟨p1, p2, p3⟩ := fm_parts (a := a) (b := b) (c := c) (by omega) (by omega) (by omega)
  have ho : doOk (fmL a b c) = true := by unfold doOk; rw [p1, p2, p3]; exact h
  obtain ⟨q1, q2, q3⟩ := do_yes ho
  rw [q1, q2, q3, p1, p2, p3]
  exact ⟨ho, rfl, rfl, rfl⟩
theorem hexbits {x : List UInt8} (h : x.length = 56) (hb : x.all P.bitB = true) : hoOk x = true ∧ P.unhexOk (hoL x) = true ∧ bhL (hoL x) = x ∧ hoL x = P.hexL x ∧ rfU (hoL x) = true := by
  have ho : hoOk x = true := by
    unfold hoOk
    rw [Bool.and_eq_true, P.isBits_iff, decide_eq_true_eq]
    exact ⟨⟨by omega, hb⟩, by omega⟩
  have e : hoL x = P.hexL x := by unfold hoL; rw [ho]; rfl
  obtain ⟨r1, r2⟩ := P.unhex_hexL hb (by omega)
  have hu : P.unhexOk (P.hexL x) = true := by unfold P.unhexOk; rw [r2, P.hexL_len, decide_eq_true (by omega)]; rfl
  have hbh : bhL (P.hexL x) = x := by unfold bhL; rw [hu, if_pos rfl, r1]
  rw [e]
  refine ⟨ho, hu, hbh, rfl, ?_⟩
  unfold rfU
  rw [hu, hbh, decide_eq_true h]; rfl
/-- what the law asks of a valid frame -/
theorem frm1 {a b c : Int} (h : frOk a b c = true) : ∃ (s x : List UInt8) (k : Nat), efS a b c = s ∧ s.length = 14 ∧ (dfOk s = true ∧ dfA s = a ∧ dfB s = b ∧ dfC s = c) ∧ (P.unhexOk s = true ∧ bhL s = x) ∧ x.length = 56 ∧
    c % 56 = (k : Int) ∧ k < 56 ∧ (fbOk x k = true ∧ fbL x k = P.flipL x k) ∧ (P.flipL x k).length = 56 ∧ hoOk (P.flipL x k) = true ∧ (hoL (P.flipL x k)).length = 14 ∧
    (rfOk (hoL (P.flipL x k)) = true ∧ rfA (hoL (P.flipL x k)) = a ∧ rfB (hoL (P.flipL x k)) = b ∧ rfC (hoL (P.flipL x k)) = c ∧ rfI (hoL (P.flipL x k)) = k) ∧ dfOk (hoL (P.flipL x k)) = false ∧
    (P.pfOk (P.ftL a b c) = true ∧ P.pfA (P.ftL a b c) = a ∧ P.pfB (P.ftL a b c) = b ∧ P.pfC (P.ftL a b c) = c) := by
  obtain ⟨a, b, c, rfl, rfl, rfl, ha, hb, hc⟩ := fr_nat h
  have es := ef_yes h
  have hfl := fmL_len a b c
  have hfb := fmL_bits a b c
  have hso := fm_sound a b c
  obtain ⟨d1, d2, d3, d4⟩ := fm_do h
  obtain ⟨x0, x1, x2, x3, x4⟩ := hexbits hfl hfb
  rw [x3] at x1 x2 x4
  have hk : c % 56 < (fmL a b c).length := by omega
  obtain ⟨f1, f2⟩ := fb_nat (k := c % 56) (by omega) hfb hk
  obtain ⟨g1, g2, g3, g4, g5⟩ := rep_flip hso hk
  have hl2 := P.flipL_len (fmL a b c) (c % 56)
  rw [hfl] at hl2
  have hb2 := P.flipL_bits hfb (c % 56)
  obtain ⟨y0, y1, y2, y3, y4⟩ := hexbits hl2 hb2
  have hs1 : sndB (fmL a b c) = true := by unfold isB at hso; rw [Bool.and_eq_true] at hso; exact hso.2
  have hs2 : sndB (P.flipL (fmL a b c) (c % 56)) = false := by unfold isB at g5; rw [g4, Bool.true_and] at g5; exact g5
  have hdf : dfOk (P.hexL (fmL a b c)) = true := by unfold dfOk; rw [x4, x2, hs1, d1]; rfl
  obtain ⟨e1, e2, e3⟩ := df_yes hdf
  rw [x2, d2] at e1
  rw [x2, d3] at e2
  rw [x2, d4] at e3
  have hrf : rfOk (hoL (P.flipL (fmL a b c) (c % 56))) = true := by unfold rfOk; rw [y4, y2, g1, g2, d1]; rfl
  obtain ⟨r1, r2, r3, r4⟩ := rf_yes hrf
  rw [y2, g2, d2] at r1
  rw [y2, g2, d3] at r2
  rw [y2, g2, d4] at r3
  rw [y2, g3] at r4
  have hft := ft_yes h
  refine ⟨P.hexL (fmL a b c), fmL a b c, c % 56, es, by rw [P.hexL_len, hfl], ⟨hdf, e1, e2, e3⟩, ⟨x1, x2⟩, hfl, by omega, by omega, ⟨f1, f2⟩, hl2, y0, by rw [y3, P.hexL_len, hl2], ⟨hrf, r1, r2, r3, r4⟩, ?_, ?_⟩
  · unfold dfOk; rw [y2, hs2, Bool.false_and, Bool.and_false]
  · rw [hft]; exact pf_ftR ha hb hc
/-- what the law asks of a frame that was read -/
theorem frm2 {u : List UInt8} (h : P.pfOk u = true) : frOk (P.pfA u) (P.pfB u) (P.pfC u) = true ∧ P.ftL (P.pfA u) (P.pfB u) (P.pfC u) = u := by
  have hf := (P.pfOk_iff.1 h).2.2.2.2.2
  have ht := P.pf_text h
  have e1 : P.pfA u = (P.kIdx (P.pfW u 0) : Int) := by unfold P.pfA; rw [h]; rfl
  have e2 : P.pfB u = (P.pfN u 1 : Int) := by unfold P.pfB; rw [h]; rfl
  have e3 : P.pfC u = (P.pfN u 2 : Int) := by unfold P.pfC; rw [h]; rfl
  rw [e1, e2, e3]
  have ho : frOk (P.kIdx (P.pfW u 0)) (P.pfN u 1) (P.pfN u 2) = true := hf
  exact ⟨ho, by rw [ft_yes ho, ht]⟩
end Go.Proofs.Ytfbanjmooknafaa
