/-
  Contracts of the draws for the laws on flight names.
-/
import Derived.Test.YtfbanjmooknafaaDS
import Derived.Test.YtfbanjmooknafaaNM
import Derived.Test.YtfbanjmooknafaaNN
import Derived.Test.YtfbanjmooknafaaT
namespace Go.Proofs.Ytfbanjmooknafaa
open Go.RowKit
set_option linter.unusedSimpArgs false
set_option linter.unusedVariables false
set_option maxRecDepth 100000

theorem c_flightName (g : Nat) (l : List UInt8) (m : Nat) (w : World) (hc : Cur w g l m) (hm : m ≤ 800000000) (hl : l.length ≤ 70000) : Calls Try.prog 194 #[.pointer (some ⟨g, 0, none⟩)] w (DrewStr (AtMost 10) g l (m + 4) w) := by
  have HC := Lib.hid hc
  have HL := Lib.hid hl
  clear hc
  go_enter Try.func194, Try.ntmps194
  go_wp2_with fail
  refine (c_one 16 g l m _ HC.out (by omega) hl (by omega) (by omega)).mono ?_
  rintro e w1 ⟨b, rfl, hc1, hg1⟩
  have HC1 := Lib.hid hc1
  have HG1 := Lib.hid hg1
  clear hc1 hg1
  cases b with
  | true =>
    go_wp2_with fail
    have HA := Lib.hid (holds_new w1 (([[], [65,66,67,68,69,70,71,72,73], [97,98,49], [65,32,66], [65,45,49]] : List (List UInt8)).map vs) 9)
    have HCA := Lib.hid (HC1.out.alloc (.cells (([[], [65,66,67,68,69,70,71,72,73], [97,98,49], [65,32,66], [65,45,49]] : List (List UInt8)).map vs).toArray 9))
    have HGA := Lib.hid (grown_alloc HG1.out (.cells (([[], [65,66,67,68,69,70,71,72,73], [97,98,49], [65,32,66], [65,45,49]] : List (List UInt8)).map vs).toArray 9))
    have HNE := Lib.hid (lit_ne HC1.out)
    refine (c_of _ 5 5 [[], [65,66,67,68,69,70,71,72,73], [97,98,49], [65,32,66], [65,45,49]] g l (m + 2) _ rfl (by exact HA.out) HNE.out (by exact HCA.out) (by omega) HL.out (by omega) (by omega)).mono ?_
    rintro e w2 ⟨x, hx, rfl, hc2, hg2⟩
    have hx10 : x.length ≤ 10 := by
      have : ∀ y ∈ ([[], [65,66,67,68,69,70,71,72,73], [97,98,49], [65,32,66], [65,45,49]] : List (List UInt8)), y.length ≤ 10 := by decide
      exact this x hx
    have HC2 := Lib.hid hc2
    have HG2 := Lib.hid (only_trans HGA.out hg2)
    clear hc2 hg2 HA HCA HGA HNE hx
    go_wp2
    go_ret
    exact ⟨x, hx10, rfl, HC2.out, HG2.out⟩
  | false =>
    go_wp2_with fail
    have HA := Lib.hid (holds_new w1 (([[65], [65,66,49,50], [65,66,67,49,50,51], [88,89,90,57,57,57,57], [65,66,67,68,69,70,71,72], [49,50,51,52,53,54,55,56], [75,76,77,48], [81,49,48], [55]] : List (List UInt8)).map vs) 9)
    have HCA := Lib.hid (HC1.out.alloc (.cells (([[65], [65,66,49,50], [65,66,67,49,50,51], [88,89,90,57,57,57,57], [65,66,67,68,69,70,71,72], [49,50,51,52,53,54,55,56], [75,76,77,48], [81,49,48], [55]] : List (List UInt8)).map vs).toArray 9))
    have HGA := Lib.hid (grown_alloc HG1.out (.cells (([[65], [65,66,49,50], [65,66,67,49,50,51], [88,89,90,57,57,57,57], [65,66,67,68,69,70,71,72], [49,50,51,52,53,54,55,56], [75,76,77,48], [81,49,48], [55]] : List (List UInt8)).map vs).toArray 9))
    have HNE := Lib.hid (lit_ne HC1.out)
    refine (c_of _ 9 9 [[65], [65,66,49,50], [65,66,67,49,50,51], [88,89,90,57,57,57,57], [65,66,67,68,69,70,71,72], [49,50,51,52,53,54,55,56], [75,76,77,48], [81,49,48], [55]] g l (m + 2) _ rfl (by exact HA.out) HNE.out (by exact HCA.out) (by omega) HL.out (by omega) (by omega)).mono ?_
    rintro e w2 ⟨x, hx, rfl, hc2, hg2⟩
    have hx10 : x.length ≤ 10 := by
      have : ∀ y ∈ ([[65], [65,66,49,50], [65,66,67,49,50,51], [88,89,90,57,57,57,57], [65,66,67,68,69,70,71,72], [49,50,51,52,53,54,55,56], [75,76,77,48], [81,49,48], [55]] : List (List UInt8)), y.length ≤ 10 := by decide
      exact this x hx
    have HC2 := Lib.hid hc2
    have HG2 := Lib.hid (only_trans HGA.out hg2)
    clear hc2 hg2 HA HCA HGA HNE hx
    go_wp2
    go_ret
    exact ⟨x, hx10, rfl, HC2.out, HG2.out⟩
theorem c_DrawIsFlightName (A : Option Addr) (n c : Nat) (l : List UInt8) (w : World) (hl : l.length = n) (hn : n ≤ 65536) (h : Holds w A (ub l)) : Calls Try.prog 188 #[.slice A n c] w (GaveS 10 w) := by
  have hcn := cur_new (w := w) (A := A) c 102 h
  rw [hl] at hcn
  obtain ⟨W0, hW0⟩ : ∃ W0, w.alloc (.cells #[.slice A n c, .int .i64 0, .int .u64 0] 102) = W0 := ⟨_, rfl⟩
  rw [hW0] at hcn
  have HC := Lib.hid hcn
  have HL := Lib.hid (show l.length ≤ 70000 by omega)
  clear h hl hcn
  obtain ⟨g, hg⟩ : ∃ g, w.heap.size = g := ⟨_, rfl⟩
  have HGZ := Lib.hid hg
  rw [hg] at HC
  go_enter Try.func188, Try.ntmps188
  go_wp2_with fail
  have HWZ := Lib.hid hW0
  clear hW0 hg
  try rw [HGZ.out]
  refine (c_flightName g l 0 _ HC.out (by omega) HL.out).mono ?_
  rintro e w1 ⟨x, hx, rfl, hc1, hg1⟩
  have hx3 : x.length ≤ 10 := hx
  have HB := Lib.hid (cur_below HWZ.out (by rw [HGZ.out]; exact hg1))
  clear hc1 hg1 hx
  go_wp2
  go_ret
  exact ⟨x, hx3, rfl, HB.out⟩
theorem c_DrawNameBits (A : Option Addr) (n c : Nat) (l : List UInt8) (w : World) (hl : l.length = n) (hn : n ≤ 65536) (h : Holds w A (ub l)) : Calls Try.prog 87 #[.slice A n c] w (GaveS 10 w) := by
  go_enter Try.func87, Try.ntmps87
  go_wp2_with fail
  refine (c_DrawIsFlightName A n c l _ hl hn h).mono ?_
  rintro e w1 ⟨x, hx, rfl, hb1⟩
  go_wp2
  go_ret
  exact ⟨x, hx, rfl, hb1⟩
theorem c_DrawSplitFlightName (A : Option Addr) (n c : Nat) (l : List UInt8) (w : World) (hl : l.length = n) (hn : n ≤ 65536) (h : Holds w A (ub l)) : Calls Try.prog 107 #[.slice A n c] w (GaveS 10 w) := by
  have hcn := cur_new (w := w) (A := A) c 102 h
  rw [hl] at hcn
  obtain ⟨W0, hW0⟩ : ∃ W0, w.alloc (.cells #[.slice A n c, .int .i64 0, .int .u64 0] 102) = W0 := ⟨_, rfl⟩
  rw [hW0] at hcn
  have HC := Lib.hid hcn
  have HL := Lib.hid (show l.length ≤ 70000 by omega)
  clear h hl hcn
  obtain ⟨g, hg⟩ : ∃ g, w.heap.size = g := ⟨_, rfl⟩
  have HGZ := Lib.hid hg
  rw [hg] at HC
  go_enter Try.func107, Try.ntmps107
  go_wp2_with fail
  have HWZ := Lib.hid hW0
  clear hW0 hg
  try rw [HGZ.out]
  refine (c_one 3 g l 0 _ HC.out (by omega) HL.out (by omega) (by omega)).mono ?_
  rintro e w1 ⟨b, rfl, hc1, hg1⟩
  have HC1 := Lib.hid hc1
  have HG1 := Lib.hid hg1
  clear hc1 hg1
  cases b with
  | true =>
    go_wp2_with fail
    have HA := Lib.hid (holds_new w1 (([[65,66,67,48], [65,66,67,48,49], [65,66,67,68,49], [49,50,51], [65,66,67], [65,57,57,57,57], [65,49,48,48,48,48], [65,66,49,67]] : List (List UInt8)).map vs) 9)
    have HCA := Lib.hid (HC1.out.alloc (.cells (([[65,66,67,48], [65,66,67,48,49], [65,66,67,68,49], [49,50,51], [65,66,67], [65,57,57,57,57], [65,49,48,48,48,48], [65,66,49,67]] : List (List UInt8)).map vs).toArray 9))
    have HGA := Lib.hid (grown_alloc HG1.out (.cells (([[65,66,67,48], [65,66,67,48,49], [65,66,67,68,49], [49,50,51], [65,66,67], [65,57,57,57,57], [65,49,48,48,48,48], [65,66,49,67]] : List (List UInt8)).map vs).toArray 9))
    have HNE := Lib.hid (lit_ne HC1.out)
    refine (c_of _ 8 8 [[65,66,67,48], [65,66,67,48,49], [65,66,67,68,49], [49,50,51], [65,66,67], [65,57,57,57,57], [65,49,48,48,48,48], [65,66,49,67]] g l (0 + 2) _ rfl (by exact HA.out) HNE.out (by exact HCA.out) (by omega) HL.out (by omega) (by omega)).mono ?_
    rintro e w2 ⟨x, hx, rfl, hc2, hg2⟩
    have hx10 : x.length ≤ 10 := by
      have : ∀ y ∈ ([[65,66,67,48], [65,66,67,48,49], [65,66,67,68,49], [49,50,51], [65,66,67], [65,57,57,57,57], [65,49,48,48,48,48], [65,66,49,67]] : List (List UInt8)), y.length ≤ 10 := by decide
      exact this x hx
    have HB := Lib.hid (cur_below HWZ.out (by rw [HGZ.out]; exact only_trans HGA.out hg2))
    clear hc2 hg2 HA HCA HGA HNE hx
    go_wp2
    go_ret
    exact ⟨x, hx10, rfl, HB.out⟩
  | false =>
    go_wp2_with fail
    refine (c_flightName g l _ _ HC1.out (by omega) HL.out).mono ?_
    rintro e w2 ⟨x, hx, rfl, hc2, hg2⟩
    have hx3 : x.length ≤ 10 := hx
    have HB := Lib.hid (cur_below HWZ.out (by rw [HGZ.out]; exact only_trans HG1.out hg2))
    clear hc2 hg2 hx
    go_wp2
    go_ret
    exact ⟨x, hx3, rfl, HB.out⟩
theorem holds_take {w : World} {A : Option Addr} {xs : List Value} (h : Holds w A xs) (k : Nat) : Holds w A (xs.take k) := fun hne => by
  have hx : xs ≠ [] := fun e => hne (by rw [e]; simp)
  obtain ⟨b, o, hA, hc⟩ := h hx
  refine ⟨b, o, hA, fun j u hj => hc j u ?_⟩
  rw [List.getElem?_take] at hj
  split at hj
  · exact hj
  · cases hj
theorem c_DrawNamePart (A : Option Addr) (n c : Nat) (l : List UInt8) (w : World) (hl : l.length = n) (hn : n ≤ 65536) (h : Holds w A (ub l)) : Calls Try.prog 110 #[.slice A n c] w (GaveSI 10 (-1) 2 w) := by
  have hcn := cur_new (w := w) (A := A) c 102 h
  rw [hl] at hcn
  obtain ⟨W0, hW0⟩ : ∃ W0, w.alloc (.cells #[.slice A n c, .int .i64 0, .int .u64 0] 102) = W0 := ⟨_, rfl⟩
  rw [hW0] at hcn
  have HC := Lib.hid hcn
  have HL := Lib.hid (show l.length ≤ 70000 by omega)
  clear h hl hcn
  obtain ⟨g, hg⟩ : ∃ g, w.heap.size = g := ⟨_, rfl⟩
  have HGZ := Lib.hid hg
  rw [hg] at HC
  go_enter Try.func110, Try.ntmps110
  go_wp2_with fail
  have HWZ := Lib.hid hW0
  clear hW0 hg
  try rw [HGZ.out]
  refine (c_flightName g l 0 _ HC.out (by omega) HL.out).mono ?_
  rintro e w1 ⟨x, hx, rfl, hc1, hg1⟩
  have hx3 : x.length ≤ 10 := hx
  have HC1 := Lib.hid hc1
  have HG1 := Lib.hid hg1
  have HA := Lib.hid (holds_new w1 (vi [0, 1, 0, 1, -1, 2]) 3)
  have HCA := Lib.hid (hc1.alloc (.cells (vi [0, 1, 0, 1, -1, 2]).toArray 3))
  have HGA := Lib.hid (grown_alloc hg1 (.cells (vi [0, 1, 0, 1, -1, 2]).toArray 3))
  have HNE := Lib.hid (lit_ne hc1)
  clear hc1 hg1 hx
  go_wp2_with fail
  refine (c_pick 24 g l _ _ HCA.out (by omega) HL.out (by omega) (by omega)).mono ?_
  rintro e w2 ⟨p, p0, p1, rfl, hc2, hg2⟩
  have HC2 := Lib.hid hc2
  have HG2 := Lib.hid (only_trans HGA.out hg2)
  have HH2 := Lib.hid (holds_grown HA.out HNE.out hg2)
  obtain ⟨k, hk⟩ : ∃ k : Nat, p / 11 = (k : Int) := ⟨(p / 11).toNat, by omega⟩
  have hk2 : k ≤ 2 := by omega
  have HT := Lib.hid (show Holds w2 (some ⟨w1.heap.size, 0, none⟩) (vi (([0, 1, 0, 1, -1, 2] : List Int).take (4 + k))) by
    unfold vi; rw [List.map_take]; exact holds_take HH2.out (4 + k))
  have HTL := Lib.hid (show (([0, 1, 0, 1, -1, 2] : List Int).take (4 + k)).length = 4 + k by rw [List.length_take]; simp; omega)
  have HTR := Lib.hid (show ∀ x ∈ ([0, 1, 0, 1, -1, 2] : List Int).take (4 + k), -1 ≤ x ∧ x ≤ 2 from fun x hx => by
    have : ∀ y ∈ ([0, 1, 0, 1, -1, 2] : List Int), -1 ≤ y ∧ y ≤ 2 := by decide
    exact this x (List.mem_of_mem_take hx))
  clear hc2 hg2
  go_wp2_with fail
  refine (c_among _ (4 + k) 6 (([0, 1, 0, 1, -1, 2] : List Int).take (4 + k)) (-1) 2 g l _ _ HTL.out HT.out HTR.out HNE.out HC2.out (by omega) HL.out (by omega) (by omega)).mono ?_
  rintro e w3 ⟨v, v0, v1, rfl, hc3, hg3⟩
  have HB := Lib.hid (cur_below HWZ.out (by rw [HGZ.out]; exact only_trans HG2.out hg3))
  clear hc3 hg3
  go_wp2
  go_ret2
  exact ⟨x, v, hx3, v0, v1, rfl, HB.out⟩
theorem c_DrawLetterOf (A : Option Addr) (n c : Nat) (l : List UInt8) (w : World) (hl : l.length = n) (hn : n ≤ 65536) (h : Holds w A (ub l)) : Calls Try.prog 100 #[.slice A n c] w (GaveI (-1) 64 w) := by
  have hcn := cur_new (w := w) (A := A) c 102 h
  rw [hl] at hcn
  obtain ⟨W0, hW0⟩ : ∃ W0, w.alloc (.cells #[.slice A n c, .int .i64 0, .int .u64 0] 102) = W0 := ⟨_, rfl⟩
  rw [hW0] at hcn
  have HC := Lib.hid hcn
  have HL := Lib.hid (show l.length ≤ 70000 by omega)
  clear h hl hcn
  obtain ⟨g, hg⟩ : ∃ g, w.heap.size = g := ⟨_, rfl⟩
  have HGZ := Lib.hid hg
  rw [hg] at HC
  go_enter Try.func100, Try.ntmps100
  go_wp2_with fail
  have HWZ := Lib.hid hW0
  clear hW0 hg
  try rw [HGZ.out]
  have HG := Lib.hid (World.grownBy.refl W0 (some g))
  have HA := Lib.hid (holds_new W0 (vi [0, 1, 26, 27, 31, 32, 33, 47, 48, 57, 58, 63, 64, -1, 13, 50]) 3)
  have HCA := Lib.hid (HC.out.alloc (.cells (vi [0, 1, 26, 27, 31, 32, 33, 47, 48, 57, 58, 63, 64, -1, 13, 50]).toArray 3))
  have HGA := Lib.hid (grown_alloc HG.out (.cells (vi [0, 1, 26, 27, 31, 32, 33, 47, 48, 57, 58, 63, 64, -1, 13, 50]).toArray 3))
  have HNE := Lib.hid (lit_ne HC.out)
  refine (c_among _ 16 16 [0, 1, 26, 27, 31, 32, 33, 47, 48, 57, 58, 63, 64, -1, 13, 50] (-1) 64 g l 0 _ rfl (by exact HA.out) (by decide) HNE.out (by exact HCA.out) (by omega) HL.out (by omega) (by omega)).mono ?_
  rintro e w1 ⟨x, x0, x1, rfl, hc1, hg1⟩
  have HB := Lib.hid (cur_below HWZ.out (by rw [HGZ.out]; exact only_trans HGA.out hg1))
  clear hc1 hg1 HA HCA HGA HNE
  go_wp2
  go_ret
  exact ⟨x, x0, x1, rfl, HB.out⟩
/-- what a draw of a byte returns -/
def GaveU (w : World) (e : Ending) (w' : World) : Prop := ∃ b : UInt8, e = .returned (.int .u8 b.toNat) ∧ Below w.heap.size w w'
theorem c_DrawLetterCode (A : Option Addr) (n c : Nat) (l : List UInt8) (w : World) (hl : l.length = n) (hn : n ≤ 65536) (h : Holds w A (ub l)) : Calls Try.prog 96 #[.slice A n c] w (GaveU w) := by
  have hcn := cur_new (w := w) (A := A) c 102 h
  rw [hl] at hcn
  obtain ⟨W0, hW0⟩ : ∃ W0, w.alloc (.cells #[.slice A n c, .int .i64 0, .int .u64 0] 102) = W0 := ⟨_, rfl⟩
  rw [hW0] at hcn
  have HC := Lib.hid hcn
  have HL := Lib.hid (show l.length ≤ 70000 by omega)
  clear h hl hcn
  obtain ⟨g, hg⟩ : ∃ g, w.heap.size = g := ⟨_, rfl⟩
  have HGZ := Lib.hid hg
  rw [hg] at HC
  go_enter Try.func96, Try.ntmps96
  go_wp2_with fail
  have HWZ := Lib.hid hW0
  clear hW0 hg
  try rw [HGZ.out]
  have HG := Lib.hid (World.grownBy.refl W0 (some g))
  have HA := Lib.hid (holds_new W0 (vi [65, 90, 48, 57, 32, 77, 64, 91, 47, 58, 97, 0, 255]) 3)
  have HCA := Lib.hid (HC.out.alloc (.cells (vi [65, 90, 48, 57, 32, 77, 64, 91, 47, 58, 97, 0, 255]).toArray 3))
  have HGA := Lib.hid (grown_alloc HG.out (.cells (vi [65, 90, 48, 57, 32, 77, 64, 91, 47, 58, 97, 0, 255]).toArray 3))
  have HNE := Lib.hid (lit_ne HC.out)
  refine (c_among _ 13 13 [65, 90, 48, 57, 32, 77, 64, 91, 47, 58, 97, 0, 255] 0 255 g l 0 _ rfl (by exact HA.out) (by decide) HNE.out (by exact HCA.out) (by omega) HL.out (by omega) (by omega)).mono ?_
  rintro e w1 ⟨x, x0, x1, rfl, hc1, hg1⟩
  have HB := Lib.hid (cur_below HWZ.out (by rw [HGZ.out]; exact only_trans HGA.out hg1))
  clear hc1 hg1 HA HCA HGA HNE
  go_wp2
  go_ret
  have hu : x = ((UInt8.ofNat x.toNat).toNat : Int) := by simp only [UInt8.toNat_ofNat']; omega
  exact ⟨UInt8.ofNat x.toNat, by rw [← hu]; rfl, HB.out⟩
end Go.Proofs.Ytfbanjmooknafaa
