/-
  Contracts of the draws for the law on texts of numbers and checksums.
-/
import Derived.Test.YtfbanjmooknafaaDS
import Derived.Test.YtfbanjmooknafaaT
namespace Go.Proofs.Ytfbanjmooknafaa
open Go.RowKit
set_option linter.unusedSimpArgs false
set_option linter.unusedVariables false
set_option maxRecDepth 100000

theorem c_vAt (A : Option Addr) (n c i : Nat) (l : List UInt8) (w : World) (hl : l.length = n) (hn : n ≤ 65536) (hi : i ≤ 100) (h : Holds w A (ub l)) : Calls Try.prog 54 #[.slice A n c, .int .i64 i] w fun e w' => (∃ k : Nat, k ≤ 255 ∧ e = .returned (.int .i64 k)) ∧ w = w' := by
  have HL := Lib.hid hl
  have HH := Lib.hid h
  clear h hl
  by_cases hlt : i < n
  · have hil : i < l.length := by rw [HL.out]; exact hlt
    obtain ⟨g, o, rfl, hc⟩ := HH.out (fun e => by have := ub_len l; rw [e] at this; simp at this; omega)
    obtain ⟨b, hb⟩ : ∃ b, l[i] = b := ⟨_, rfl⟩
    have hcell := hc i _ (ub_at hil)
    rw [hb] at hcell
    have hb8 := b.toNat_lt
    clear hc hb
    go_enter Try.func54, Try.ntmps54
    go_wp2
    go_ret
    exact ⟨⟨b.toNat, by omega, rfl⟩, rfl⟩
  · go_enter Try.func54, Try.ntmps54
    go_wp2
    go_ret
    have hpos : (0 : Int) ≤ ((i : Int) * 7 + (n : Int)) % 256 := Int.emod_nonneg _ (by decide)
    have hlt2 : ((i : Int) * 7 + (n : Int)) % 256 < 256 := Int.emod_lt_of_pos _ (by decide)
    exact ⟨⟨(((i : Int) * 7 + (n : Int)) % 256).toNat, by omega, by rw [Int.toNat_of_nonneg hpos]; rfl⟩, rfl⟩
theorem c_DrawFormatInt (A : Option Addr) (n c : Nat) (l : List UInt8) (w : World) (hl : l.length = n) (hn : n ≤ 65536) (h : Holds w A (ub l)) : Calls Try.prog 44 #[.slice A n c] w (GaveI (-1000000) 1000000 w) := by
  have hcn := cur_new (w := w) (A := A) c 102 h
  rw [hl] at hcn
  obtain ⟨W0, hW0⟩ : ∃ W0, w.alloc (.cells #[.slice A n c, .int .i64 0, .int .u64 0] 102) = W0 := ⟨_, rfl⟩
  rw [hW0] at hcn
  have HC := Lib.hid hcn
  have HL := Lib.hid (show l.length ≤ 70000 by omega)
  clear h hl hcn
  obtain ⟨g, hg⟩ : ∃ g, w.heap.size = g := ⟨_, rfl⟩
  have HGZ := Lib.hid hg
  rw [hg] at HC
  go_enter Try.func44, Try.ntmps44
  go_wp2_with fail
  have HWZ := Lib.hid hW0
  clear hW0 hg
  try rw [HGZ.out]
  refine (c_pick 1000 g l 0 _ HC.out (by omega) HL.out (by omega) (by omega)).mono ?_
  rintro e w1 ⟨p, p0, p1, rfl, hc1, hg1⟩
  have HC1 := Lib.hid hc1
  have HG1 := Lib.hid hg1
  clear hc1 hg1
  obtain ⟨q, hq⟩ : ∃ q, p - 500 = q := ⟨_, rfl⟩
  have hq0 : -500 ≤ q := by omega
  have hq1 : q ≤ 500 := by omega
  have HRG := Lib.hid (show ∀ x ∈ ([0, 1, -1, 10, 999999, -999999, 1000000, -1000000, q] : List Int), -1000000 ≤ x ∧ x ≤ 1000000 from fun x hx => by
    simp only [List.mem_cons, List.not_mem_nil, or_false] at hx
    omega)
  go_wp2_with fail
  have HA := Lib.hid (holds_new w1 (vi [0, 1, -1, 10, 999999, -999999, 1000000, -1000000, q]) 3)
  have HCA := Lib.hid (HC1.out.alloc (.cells (vi [0, 1, -1, 10, 999999, -999999, 1000000, -1000000, q]).toArray 3))
  have HGA := Lib.hid (grown_alloc HG1.out (.cells (vi [0, 1, -1, 10, 999999, -999999, 1000000, -1000000, q]).toArray 3))
  have HNE := Lib.hid (lit_ne HC1.out)
  refine (c_among _ 9 9 [0, 1, -1, 10, 999999, -999999, 1000000, -1000000, q] (-1000000) 1000000 g l (0 + 2) _ rfl (by exact HA.out) HRG.out HNE.out (by exact HCA.out) (by omega) HL.out (by omega) (by omega)).mono ?_
  rintro e w2 ⟨v, v0, v1, rfl, hc2, hg2⟩
  have HB := Lib.hid (cur_below HWZ.out (by rw [HGZ.out]; exact only_trans HGA.out hg2))
  clear hc2 hg2 HA HCA HGA HNE
  go_wp2
  go_ret
  exact ⟨v, v0, v1, rfl, HB.out⟩
theorem c_DrawParseInt (A : Option Addr) (n c : Nat) (l : List UInt8) (w : World) (hl : l.length = n) (hn : n ≤ 65536) (h : Holds w A (ub l)) : Calls Try.prog 47 #[.slice A n c] w (GaveS 300 w) := by
  have hcn := cur_new (w := w) (A := A) c 102 h
  rw [hl] at hcn
  obtain ⟨W0, hW0⟩ : ∃ W0, w.alloc (.cells #[.slice A n c, .int .i64 0, .int .u64 0] 102) = W0 := ⟨_, rfl⟩
  rw [hW0] at hcn
  have HC := Lib.hid hcn
  have HL := Lib.hid (show l.length ≤ 70000 by omega)
  clear h hl hcn
  obtain ⟨g, hg⟩ : ∃ g, w.heap.size = g := ⟨_, rfl⟩
  have HGZ := Lib.hid hg
  rw [hg] at HC
  go_enter Try.func47, Try.ntmps47
  go_wp2_with fail
  have HWZ := Lib.hid hW0
  clear hW0 hg
  try rw [HGZ.out]
  refine (c_one 2 g l 0 _ HC.out (by omega) HL.out (by omega) (by omega)).mono ?_
  rintro e w1 ⟨b, rfl, hc1, hg1⟩
  have HC1 := Lib.hid hc1
  have HG1 := Lib.hid hg1
  clear hc1 hg1
  cases b with
  | true =>
    go_wp2_with fail
    have HA := Lib.hid (holds_new w1 (([[],[45],[45,48],[48,48],[48,49],[45,45,49],[49,120],[57,57,57,57,57,57],[49,48,48,48,48,48,48],[45,57,57,57,57,57,57],[49,56,52,52,54,55,52,52,48,55,51,55,48,57,53,53,49,54,49,55]] : List (List UInt8)).map vs) 9)
    have HCA := Lib.hid (HC1.out.alloc (.cells (([[],[45],[45,48],[48,48],[48,49],[45,45,49],[49,120],[57,57,57,57,57,57],[49,48,48,48,48,48,48],[45,57,57,57,57,57,57],[49,56,52,52,54,55,52,52,48,55,51,55,48,57,53,53,49,54,49,55]] : List (List UInt8)).map vs).toArray 9))
    have HGA := Lib.hid (grown_alloc HG1.out (.cells (([[],[45],[45,48],[48,48],[48,49],[45,45,49],[49,120],[57,57,57,57,57,57],[49,48,48,48,48,48,48],[45,57,57,57,57,57,57],[49,56,52,52,54,55,52,52,48,55,51,55,48,57,53,53,49,54,49,55]] : List (List UInt8)).map vs).toArray 9))
    have HNE := Lib.hid (lit_ne HC1.out)
    refine (c_of _ 11 11 [[],[45],[45,48],[48,48],[48,49],[45,45,49],[49,120],[57,57,57,57,57,57],[49,48,48,48,48,48,48],[45,57,57,57,57,57,57],[49,56,52,52,54,55,52,52,48,55,51,55,48,57,53,53,49,54,49,55]] g l (0 + 2) _ rfl (by exact HA.out) HNE.out (by exact HCA.out) (by omega) HL.out (by omega) (by omega)).mono ?_
    rintro e w2 ⟨x, hx, rfl, hc2, hg2⟩
    have hx3 : x.length ≤ 300 := by
      have : ∀ y ∈ ([[],[45],[45,48],[48,48],[48,49],[45,45,49],[49,120],[57,57,57,57,57,57],[49,48,48,48,48,48,48],[45,57,57,57,57,57,57],[49,56,52,52,54,55,52,52,48,55,51,55,48,57,53,53,49,54,49,55]] : List (List UInt8)), y.length ≤ 300 := by decide
      exact this x hx
    have HB := Lib.hid (cur_below HWZ.out (by rw [HGZ.out]; exact only_trans HGA.out hg2))
    clear hc2 hg2 HA HCA HGA HNE hx
    go_wp2
    go_ret
    exact ⟨x, hx3, rfl, HB.out⟩
  | false =>
    go_wp2_with fail
    refine (c_pick 2000 g l _ _ HC1.out (by omega) HL.out (by omega) (by omega)).mono ?_
    rintro e w2 ⟨p, p0, p1, rfl, hc2, hg2⟩
    have HB := Lib.hid (cur_below HWZ.out (by rw [HGZ.out]; exact only_trans HG1.out hg2))
    have htl := P.txt_len (n := p - 1000) (by omega) (by omega)
    clear hc2 hg2
    go_wp2_with fail
    refine (c_l1Num (p - 1000) _ (by omega) (by omega)).mono ?_
    rintro e w3 ⟨rfl, hq3⟩
    obtain ⟨t, ht⟩ : ∃ t, P.txt (p - 1000) = t := ⟨_, rfl⟩
    rw [ht] at htl ⊢
    have hx3 : t.length ≤ 300 := by omega
    have HB3 := Lib.hid (HB.out.trans ((hq3.below w2.heap.size).mono HB.out.size))
    clear hq3 ht
    go_wp2
    go_ret
    exact ⟨t, hx3, rfl, HB3.out⟩
theorem c_DrawAppendChecksum (A : Option Addr) (n c : Nat) (l : List UInt8) (w : World) (hl : l.length = n) (hn : n ≤ 65536) (h : Holds w A (ub l)) : Calls Try.prog 50 #[.slice A n c] w (GaveS 4000 w) := by
  obtain ⟨u0, ui, uz0, uz1, uz2⟩ := info_parts info_u8
  have hcn := cur_new (w := w) (A := A) c 102 h
  rw [hl] at hcn
  obtain ⟨W0, hW0⟩ : ∃ W0, w.alloc (.cells #[.slice A n c, .int .i64 0, .int .u64 0] 102) = W0 := ⟨_, rfl⟩
  rw [hW0] at hcn
  have HC := Lib.hid hcn
  have HL := Lib.hid (show l.length ≤ 70000 by omega)
  clear h hl hcn
  obtain ⟨g, hg⟩ : ∃ g, w.heap.size = g := ⟨_, rfl⟩
  have HGZ := Lib.hid hg
  rw [hg] at HC
  go_enter Try.func50, Try.ntmps50
  go_wp2_with fail
  have HWZ := Lib.hid hW0
  clear hW0 hg
  try rw [HGZ.out]
  refine (c_one 20 g l 0 _ HC.out (by omega) HL.out (by omega) (by omega)).mono ?_
  rintro e w1 ⟨b, rfl, hc1, hg1⟩
  have HC1 := Lib.hid hc1
  have HG1 := Lib.hid hg1
  clear hc1 hg1
  cases b with
  | true =>
    go_wp2_with fail
    refine (c_pick 10 g l _ _ HC1.out (by omega) HL.out (by omega) (by omega)).mono ?_
    rintro e w2 ⟨p, p0, p1, rfl, hc2, hg2⟩
    have hB2 := cur_below HWZ.out (by rw [HGZ.out]; exact only_trans HG1.out hg2)
    obtain ⟨p, rfl⟩ : ∃ p' : Nat, p = (p' : Int) := ⟨p.toNat, by omega⟩
    clear hc2 hg2
    go_wp2_with (at_make; refine wpList_make_full _ rfl _ _ 22 rfl w2.heap.size 5 u0 (.int .u8 0) 1 Try.underlying22 ui uz0 uz1 _ _ _ _ (3990 + p) rfl rfl rfl rfl (by rw [uz2]; omega) (by unfold maxLen; omega) (Nat.le_refl _) ?_)
    intro w6 hz6 hg6
    have hB6 : Below w2.heap.size w2 w6 := (Below.refl _ _).grown hg6 (Nat.le_refl _) (fun k hk => by cases hk)
    have hB := hB2.trans (hB6.mono hB2.size)
    have hz6' : w6.ownsRow w2.heap.size 5 1 (.slice (some ⟨w2.heap.size, 0, none⟩) (3990 + p) (3990 + p)) (3990 + p) (ub (List.replicate (3990 + p) 0)) := by
      have h := hz6
      rw [toList_madeCells_one] at h
      simpa [ub] using h
    have hcv := run_str_row (P := Try.prog) 22 9 5 Try.underlying22 Try.underlying5 Try.underlying9 hz6'
    obtain ⟨z, hz⟩ : ∃ z, List.replicate (3990 + p) (0 : UInt8) = z := ⟨_, rfl⟩
    have hzl : z.length ≤ 4000 := by rw [← hz, List.length_replicate]; omega
    rw [hz] at hcv
    clear hz6 hz6' hg6 hB6 hB2 hz
    go_wp2
    go_ret
    exact ⟨z, hzl, rfl, hB⟩
  | false =>
    go_wp2_with fail
    refine (c_any1 g l _ _ HC1.out (by omega) HL.out).mono ?_
    rintro e w2 ⟨x, hx, rfl, hc2, hg2⟩
    have hx3 : x.length ≤ 4000 := Nat.le_trans (show x.length ≤ 10 from hx) (by decide)
    have HB := Lib.hid (cur_below HWZ.out (by rw [HGZ.out]; exact only_trans HG1.out hg2))
    clear hc2 hg2 hx
    go_wp2
    go_ret
    exact ⟨x, hx3, rfl, HB.out⟩
end Go.Proofs.Ytfbanjmooknafaa
