/-
  Contracts of the draws of frames.
-/
import Derived.Test.YtfbanjmooknafaaLB
import Derived.Test.YtfbanjmooknafaaG
namespace Go.Proofs.Ytfbanjmooknafaa
open Go.RowKit
set_option linter.unusedSimpArgs false
set_option linter.unusedVariables false
set_option maxRecDepth 100000

def DrewFr (p : Int → Int → Int → Prop) (g : Nat) (l : List UInt8) (m : Nat) (w : World) (e : Ending) (w' : World) : Prop := ∃ a b c : Int, p a b c ∧ e = .returned (fr a b c) ∧ Cur w' g l m ∧ w.grownBy w' (some g)
def GoodFr (a b c : Int) : Prop := (1 ≤ a ∧ a ≤ 4) ∧ (1 ≤ b ∧ b ≤ 65535) ∧ (0 ≤ c ∧ c ≤ 16777215)
def NearFr (a b c : Int) : Prop := (0 ≤ a ∧ a ≤ 5) ∧ (0 ≤ b ∧ b ≤ 65536) ∧ (-1 ≤ c ∧ c ≤ 16777216)
/-- what a draw of a frame returns -/
def GaveFr (w : World) (e : Ending) (w' : World) : Prop := ∃ a b c : Int, NearFr a b c ∧ e = .returned (fr a b c) ∧ Below w.heap.size w w'
theorem Box.grown {w w' : World} {r g : Nat} {a b c : Int} (h : Box w r a b c) (hne : r ≠ g) (hg : w.grownBy w' (some g)) : Box w' r a b c := by
  have hr := World.block_lt_of_cell? w _ h.1.1
  have hh := hg.block r hr (fun e => hne (Option.some.inj e))
  unfold Box World.cell? World.frozen? at *
  rw [hh]; exact h
theorem grown_setNew {a w : World} {g r : Nat} (h : a.grownBy w (some g)) (hr : a.heap.size ≤ r) (o : Nat) (v : Value) : a.grownBy (w.setCell ⟨r, o, none⟩ v) (some g) :=
  ⟨h.os, h.tape, h.output, by rw [World.size_setCell]; exact h.size, fun i hi hn => by
    rw [Below.heap_setCell w ⟨r, o, none⟩ v i (fun e => by have e2 : i = r := e; omega)]
    exact h.block i hi hn⟩
theorem Cur.setNew {w : World} {g r : Nat} {l : List UInt8} {m : Nat} (h : Cur w g l m) (hr : g < r) (o : Nat) (v : Value) : Cur (w.setCell ⟨r, o, none⟩ v) g l m :=
  h.belowB ((Below.refl (g + 1) w).setCell (p := ⟨r, o, none⟩) hr v) (Nat.lt_succ_self g)
theorem c_frame (g : Nat) (l : List UInt8) (m : Nat) (w : World) (hc : Cur w g l m) (hm : m ≤ 800000000) (hl : l.length ≤ 70000) : Calls Try.prog 205 #[.pointer (some ⟨g, 0, none⟩)] w (DrewFr GoodFr g l (m + 10) w) := by
  have HL := Lib.hid hl
  have hgr := hc.lt
  obtain ⟨r, hr⟩ : ∃ r, w.heap.size = r := ⟨_, rfl⟩
  obtain ⟨W0, hW0⟩ : ∃ W0, w.alloc (.cells #[.int .i64 0, .int .i64 0, .int .i64 0] 57) = W0 := ⟨_, rfl⟩
  have HC := Lib.hid (hc.alloc (.cells #[.int .i64 0, .int .i64 0, .int .i64 0] 57))
  have HX := Lib.hid (Box.new w 0 0 0 57)
  have HG := Lib.hid (grown_alloc (World.grownBy.refl w (some g)) (.cells #[.int .i64 0, .int .i64 0, .int .i64 0] 57))
  rw [hW0] at HC HX HG
  rw [hr] at HX hgr
  have HR := Lib.hid hr
  clear hc
  go_enter Try.func205, Try.ntmps205
  go_wp2_with fail
  clear hW0
  try rw [HR.out]
  refine (c_pick 4 g l m _ HC.out (by omega) hl (by omega) (by omega)).mono ?_
  rintro e w1 ⟨x, x0, x1, rfl, hc1, hg1⟩
  have HC1 := Lib.hid hc1
  have HX1 := Lib.hid (HX.out.grown (by omega) hg1)
  have HG1 := Lib.hid (only_trans HG.out hg1)
  clear hc1 hg1 HC HX HG hr
  go_wp2_with fail
  have HA := Lib.hid (holds_new w1 (vi [1, 2, 255, 4660, 65535]) 3)
  have HCA := Lib.hid (HC1.out.alloc (.cells (vi [1, 2, 255, 4660, 65535]).toArray 3))
  have HGA := Lib.hid (grown_alloc HG1.out (.cells (vi [1, 2, 255, 4660, 65535]).toArray 3))
  have HNE := Lib.hid (lit_ne HC1.out)
  refine (c_among _ 5 5 [1, 2, 255, 4660, 65535] 1 65535 g l (m + 2) _ rfl (by exact HA.out) (by decide) HNE.out (by exact HCA.out) (by omega) HL.out (by omega) (by omega)).mono ?_
  rintro e w2 ⟨y, y0, y1, rfl, hc2, hg2⟩
  have HC2 := Lib.hid hc2
  have HX2 := Lib.hid ((HX1.out.below ((Below.refl w1.heap.size w1).alloc (Nat.le_refl _) (.cells (vi [1, 2, 255, 4660, 65535]).toArray 3))).grown (by omega) hg2)
  have HG2 := Lib.hid (only_trans HGA.out hg2)
  clear hc2 hg2 HA HCA HGA HNE HC1 HX1 HG1
  go_wp2_with fail
  refine (c_pick 256 g l _ _ HC2.out (by omega) hl (by omega) (by omega)).mono ?_
  rintro e w3 ⟨p, p0, p1, rfl, hc3, hg3⟩
  have HC3 := Lib.hid hc3
  have HX3 := Lib.hid (HX2.out.grown (by omega) hg3)
  have HG3 := Lib.hid (only_trans HG2.out hg3)
  clear hc3 hg3 HC2 HX2 HG2
  go_wp2_with fail
  have HA := Lib.hid (holds_new w3 (vi [1, 256, 65536]) 3)
  have HCA := Lib.hid (HC3.out.alloc (.cells (vi [1, 256, 65536]).toArray 3))
  have HGA := Lib.hid (grown_alloc HG3.out (.cells (vi [1, 256, 65536]).toArray 3))
  have HNE := Lib.hid (lit_ne HC3.out)
  refine (c_among _ 3 3 [1, 256, 65536] 1 65536 g l (m + 2 + 2 + 2) _ rfl (by exact HA.out) (by decide) HNE.out (by exact HCA.out) (by omega) HL.out (by omega) (by omega)).mono ?_
  rintro e w4 ⟨q, q0, q1, rfl, hc4, hg4⟩
  have HC4 := Lib.hid hc4
  have HX4 := Lib.hid ((HX3.out.below ((Below.refl w3.heap.size w3).alloc (Nat.le_refl _) (.cells (vi [1, 256, 65536]).toArray 3))).grown (by omega) hg4)
  have HG4 := Lib.hid (only_trans HGA.out hg4)
  clear hc4 hg4 HA HCA HGA HNE HC3 HX3 HG3
  have hpq0 : 0 ≤ p * q := Int.mul_nonneg p0 (by omega)
  have hpq1 : p * q ≤ 255 * 65536 := Int.mul_le_mul (by omega) q1 (by omega) (by omega)
  obtain ⟨d, hd⟩ : ∃ d, p * q = d := ⟨_, rfl⟩
  go_wp2_with fail
  refine (c_pick 2 g l _ _ HC4.out (by omega) hl (by omega) (by omega)).mono ?_
  rintro e w5 ⟨z, z0, z1, rfl, hc5, hg5⟩
  obtain ⟨⟨k0, k1, k2⟩, f0, f1, f2⟩ := HX4.out.grown (by omega) hg5
  have HC5 := Lib.hid (((hc5.setNew hgr 0 (.int .i64 (1 + x))).setNew hgr 1 (.int .i64 y)).setNew hgr 2 (.int .i64 (d + z)))
  have hwr : w.heap.size ≤ r := by rw [HR.out]; omega
  have HG5 := Lib.hid (grown_setNew (grown_setNew (grown_setNew (only_trans HG4.out hg5) hwr 0 (.int .i64 (1 + x))) hwr 1 (.int .i64 y)) hwr 2 (.int .i64 (d + z)))
  rw [hd] at hpq0 hpq1
  clear hc5 hg5 HC4 HX4 HG4 hwr
  try rw [hd]
  go_wp2
  exact bodyPost_ret (v := .agg #[.int .i64 (1 + x), .int .i64 y, .int .i64 (d + z)]) (by simp [results, Try.results205, go_sem, k0, k1, k2]) rfl ⟨1 + x, y, d + z, ⟨⟨by omega, by omega⟩, ⟨y0, y1⟩, by omega, by omega⟩, rfl, HC5.out.mono (by omega), HG5.out⟩
theorem Box.set0 {w : World} {r : Nat} {a b c : Int} (h : Box w r a b c) (v : Int) : Box (w.setCell ⟨r, 0, none⟩ (.int .i64 v)) r v b c := by
  obtain ⟨⟨k0, k1, k2⟩, hf⟩ := h
  refine ⟨⟨World.cell?_setCell_same _ _ _ k0, ?_, ?_⟩, by simp only [World.frozen?_setCell]; exact hf⟩
  · rw [World.cell?_setCell_other _ _ _ _ (fun e => by injection e with _ e; cases e)]; exact k1
  · rw [World.cell?_setCell_other _ _ _ _ (fun e => by injection e with _ e; cases e)]; exact k2
theorem Box.set1 {w : World} {r : Nat} {a b c : Int} (h : Box w r a b c) (v : Int) : Box (w.setCell ⟨r, 1, none⟩ (.int .i64 v)) r a v c := by
  obtain ⟨⟨k0, k1, k2⟩, hf⟩ := h
  refine ⟨⟨?_, World.cell?_setCell_same _ _ _ k1, ?_⟩, by simp only [World.frozen?_setCell]; exact hf⟩
  · rw [World.cell?_setCell_other _ _ _ _ (fun e => by injection e with _ e; cases e)]; exact k0
  · rw [World.cell?_setCell_other _ _ _ _ (fun e => by injection e with _ e; cases e)]; exact k2
theorem Box.set2 {w : World} {r : Nat} {a b c : Int} (h : Box w r a b c) (v : Int) : Box (w.setCell ⟨r, 2, none⟩ (.int .i64 v)) r a b v := by
  obtain ⟨⟨k0, k1, k2⟩, hf⟩ := h
  refine ⟨⟨?_, ?_, World.cell?_setCell_same _ _ _ k2⟩, by simp only [World.frozen?_setCell]; exact hf⟩
  · rw [World.cell?_setCell_other _ _ _ _ (fun e => by injection e with _ e; cases e)]; exact k0
  · rw [World.cell?_setCell_other _ _ _ _ (fun e => by injection e with _ e; cases e)]; exact k1
theorem Box.setX {w : World} {r q : Nat} {a b c : Int} (h : Box w r a b c) (hne : r ≠ q) (o : Nat) (v : Value) : Box (w.setCell ⟨q, o, none⟩ v) r a b c := by
  obtain ⟨⟨k0, k1, k2⟩, hf⟩ := h
  refine ⟨⟨?_, ?_, ?_⟩, by simp only [World.frozen?_setCell]; exact hf⟩
  · rw [World.cell?_setCell_other _ _ _ _ (fun e => hne (by injection e with e; exact e.symm))]; exact k0
  · rw [World.cell?_setCell_other _ _ _ _ (fun e => hne (by injection e with e; exact e.symm))]; exact k1
  · rw [World.cell?_setCell_other _ _ _ _ (fun e => hne (by injection e with e; exact e.symm))]; exact k2
set_option maxHeartbeats 1000000 in
theorem c_anyFrame (g : Nat) (l : List UInt8) (m : Nat) (w : World) (hc : Cur w g l m) (hm : m ≤ 700000000) (hl : l.length ≤ 70000) : Calls Try.prog 176 #[.pointer (some ⟨g, 0, none⟩)] w (DrewFr NearFr g l (m + 20) w) := by
  have HL := Lib.hid hl
  have hgr := hc.lt
  obtain ⟨r, hr⟩ : ∃ r, w.heap.size = r := ⟨_, rfl⟩
  obtain ⟨W0, hW0⟩ : ∃ W0, w.alloc (.cells #[.int .i64 0, .int .i64 0, .int .i64 0] 57) = W0 := ⟨_, rfl⟩
  have HC := Lib.hid (hc.alloc (.cells #[.int .i64 0, .int .i64 0, .int .i64 0] 57))
  have HX := Lib.hid (Box.new w 0 0 0 57)
  have HG := Lib.hid (grown_alloc (World.grownBy.refl w (some g)) (.cells #[.int .i64 0, .int .i64 0, .int .i64 0] 57))
  rw [hW0] at HC HX HG
  have hr0 : r < W0.heap.size := by rw [← hW0, ← hr]; simp
  rw [hr] at HX hgr
  clear hc
  go_enter Try.func176, Try.ntmps176
  go_wp2_with fail
  clear hW0
  try rw [hr]
  refine (c_frame g l m _ HC.out (by omega) hl).mono ?_
  rintro e w1 ⟨x, y, z, ⟨⟨x0, x1⟩, ⟨y0, y1⟩, z0, z1⟩, rfl, hc1, hg1⟩
  have hr1 : r < w1.heap.size := Nat.lt_of_lt_of_le hr0 hg1.size
  obtain ⟨s, hs⟩ : ∃ s, w1.heap.size = s := ⟨_, rfl⟩
  have HX1 := Lib.hid (HX.out.grown (by omega) hg1)
  have HG1 := Lib.hid (grown_alloc (only_trans HG.out hg1) (.cells #[.int .i64 x, .int .i64 y, .int .i64 z] 57))
  have HC1 := Lib.hid (hc1.alloc (.cells #[.int .i64 x, .int .i64 y, .int .i64 z] 57))
  have HY1 := Lib.hid (Box.new w1 x y z 57)
  have HR1 := Lib.hid (HX1.out.below ((Below.refl w1.heap.size w1).alloc (Nat.le_refl _) (.cells #[.int .i64 x, .int .i64 y, .int .i64 z] 57)))
  obtain ⟨W1, hW1⟩ : ∃ W1, w1.alloc (.cells #[.int .i64 x, .int .i64 y, .int .i64 z] 57) = W1 := ⟨_, rfl⟩
  rw [hW1] at HG1 HC1 HY1 HR1
  rw [hs] at HY1 hr1
  have hgs : g < s := by omega
  clear hc1 hg1 HC HX HG HX1
  go_wp2_with fail
  clear hW1
  try rw [hs]
  refine (c_pick 20 g l _ _ HC1.out (by omega) hl (by omega) (by omega)).mono ?_
  rintro e w2 ⟨p, p0, p1, rfl, hc2, hg2⟩
  have HC2 := Lib.hid hc2
  have HG2 := Lib.hid (only_trans HG1.out hg2)
  have HX2 := Lib.hid (HY1.out.grown (by omega) hg2)
  have HR2 := Lib.hid (HR1.out.grown (by omega) hg2)
  clear hc2 hg2 HC1 HG1 HY1 HR1
  by_cases h0 : p = 0
  · subst h0
    go_wp2_with fail
    have HA := Lib.hid (holds_new w2 (vi [0,5,4]) 3)
    have HCA := Lib.hid (HC2.out.alloc (.cells (vi [0,5,4]).toArray 3))
    have HGA := Lib.hid (grown_alloc HG2.out (.cells (vi [0,5,4]).toArray 3))
    have HNE := Lib.hid (lit_ne HC2.out)
    refine (c_among _ 3 3 [0,5,4] 0 5 g l (m + 10 + 2) _ rfl (by exact HA.out) (by decide) HNE.out (by exact HCA.out) (by omega) HL.out (by omega) (by omega)).mono ?_
    rintro e w3 ⟨v, v0, v1, rfl, hc3, hg3⟩
    have HX3 := Lib.hid ((HX2.out.below ((Below.refl w2.heap.size w2).alloc (Nat.le_refl _) (.cells (vi [0,5,4]).toArray 3))).grown (by omega) hg3)
    have HR3 := Lib.hid ((HR2.out.below ((Below.refl w2.heap.size w2).alloc (Nat.le_refl _) (.cells (vi [0,5,4]).toArray 3))).grown (by omega) hg3)
    have hg3' := only_trans HGA.out hg3
    obtain ⟨⟨q0, q1, q2⟩, t0, t1, t2⟩ := HX3.out
    have HX4 := Lib.hid (HX3.out.set0 v)
    have HR4 := Lib.hid (HR3.out.setX (q := s) (by omega) 0 (.int .i64 v))
    have HC4 := Lib.hid (hc3.setNew hgs 0 (.int .i64 v))
    have HG4 := Lib.hid (grown_setNew hg3' (r := s) (by omega) 0 (.int .i64 v))
    obtain ⟨W4, hW4⟩ : ∃ W4, w3.setCell ⟨s, 0, none⟩ (.int .i64 v) = W4 := ⟨_, rfl⟩
    rw [hW4] at HX4 HR4 HC4 HG4
    clear hc3 hg3 hg3' HA HCA HGA HNE HX3 HR3
    obtain ⟨⟨k0, k1, k2⟩, f0, f1, f2⟩ := HX4.out
    obtain ⟨⟨j0, j1, j2⟩, h0, h1, h2⟩ := HR4.out
    have HCE := Lib.hid ((((HC4.out).setNew hgr 0 (.int .i64 v)).setNew hgr 1 (.int .i64 y)).setNew hgr 2 (.int .i64 z))
    have HGE := Lib.hid (grown_setNew (grown_setNew (grown_setNew HG4.out (show w.heap.size ≤ r by omega) 0 (.int .i64 v)) (show w.heap.size ≤ r by omega) 1 (.int .i64 y)) (show w.heap.size ≤ r by omega) 2 (.int .i64 z))
    go_wp2
    exact bodyPost_ret (v := .agg #[.int .i64 v, .int .i64 y, .int .i64 z]) (by simp [results, Try.results176, go_sem, j0, j1, j2]) rfl ⟨v, y, z, ⟨⟨by omega, by omega⟩, ⟨by omega, by omega⟩, by omega, by omega⟩, rfl, HCE.out.mono (by omega), HGE.out⟩
  · by_cases h1 : p = 1
    · subst h1
      go_wp2_with fail
      have HA := Lib.hid (holds_new w2 (vi [0,65536,65535]) 3)
      have HCA := Lib.hid (HC2.out.alloc (.cells (vi [0,65536,65535]).toArray 3))
      have HGA := Lib.hid (grown_alloc HG2.out (.cells (vi [0,65536,65535]).toArray 3))
      have HNE := Lib.hid (lit_ne HC2.out)
      refine (c_among _ 3 3 [0,65536,65535] 0 65536 g l (m + 10 + 2) _ rfl (by exact HA.out) (by decide) HNE.out (by exact HCA.out) (by omega) HL.out (by omega) (by omega)).mono ?_
      rintro e w3 ⟨v, v0, v1, rfl, hc3, hg3⟩
      have HX3 := Lib.hid ((HX2.out.below ((Below.refl w2.heap.size w2).alloc (Nat.le_refl _) (.cells (vi [0,65536,65535]).toArray 3))).grown (by omega) hg3)
      have HR3 := Lib.hid ((HR2.out.below ((Below.refl w2.heap.size w2).alloc (Nat.le_refl _) (.cells (vi [0,65536,65535]).toArray 3))).grown (by omega) hg3)
      have hg3' := only_trans HGA.out hg3
      obtain ⟨⟨q0, q1, q2⟩, t0, t1, t2⟩ := HX3.out
      have HX4 := Lib.hid (HX3.out.set1 v)
      have HR4 := Lib.hid (HR3.out.setX (q := s) (by omega) 1 (.int .i64 v))
      have HC4 := Lib.hid (hc3.setNew hgs 1 (.int .i64 v))
      have HG4 := Lib.hid (grown_setNew hg3' (r := s) (by omega) 1 (.int .i64 v))
      obtain ⟨W4, hW4⟩ : ∃ W4, w3.setCell ⟨s, 1, none⟩ (.int .i64 v) = W4 := ⟨_, rfl⟩
      rw [hW4] at HX4 HR4 HC4 HG4
      clear hc3 hg3 hg3' HA HCA HGA HNE HX3 HR3
      obtain ⟨⟨k0, k1, k2⟩, f0, f1, f2⟩ := HX4.out
      obtain ⟨⟨j0, j1, j2⟩, h0, h1, h2⟩ := HR4.out
      have HCE := Lib.hid ((((HC4.out).setNew hgr 0 (.int .i64 x)).setNew hgr 1 (.int .i64 v)).setNew hgr 2 (.int .i64 z))
      have HGE := Lib.hid (grown_setNew (grown_setNew (grown_setNew HG4.out (show w.heap.size ≤ r by omega) 0 (.int .i64 x)) (show w.heap.size ≤ r by omega) 1 (.int .i64 v)) (show w.heap.size ≤ r by omega) 2 (.int .i64 z))
      go_wp2
      exact bodyPost_ret (v := .agg #[.int .i64 x, .int .i64 v, .int .i64 z]) (by simp [results, Try.results176, go_sem, j0, j1, j2]) rfl ⟨x, v, z, ⟨⟨by omega, by omega⟩, ⟨by omega, by omega⟩, by omega, by omega⟩, rfl, HCE.out.mono (by omega), HGE.out⟩
    · by_cases h2 : p = 2
      · subst h2
        go_wp2_with fail
        have HA := Lib.hid (holds_new w2 (vi [-1,16777215,16777216]) 3)
        have HCA := Lib.hid (HC2.out.alloc (.cells (vi [-1,16777215,16777216]).toArray 3))
        have HGA := Lib.hid (grown_alloc HG2.out (.cells (vi [-1,16777215,16777216]).toArray 3))
        have HNE := Lib.hid (lit_ne HC2.out)
        refine (c_among _ 3 3 [-1,16777215,16777216] (-1) 16777216 g l (m + 10 + 2) _ rfl (by exact HA.out) (by decide) HNE.out (by exact HCA.out) (by omega) HL.out (by omega) (by omega)).mono ?_
        rintro e w3 ⟨v, v0, v1, rfl, hc3, hg3⟩
        have HX3 := Lib.hid ((HX2.out.below ((Below.refl w2.heap.size w2).alloc (Nat.le_refl _) (.cells (vi [-1,16777215,16777216]).toArray 3))).grown (by omega) hg3)
        have HR3 := Lib.hid ((HR2.out.below ((Below.refl w2.heap.size w2).alloc (Nat.le_refl _) (.cells (vi [-1,16777215,16777216]).toArray 3))).grown (by omega) hg3)
        have hg3' := only_trans HGA.out hg3
        obtain ⟨⟨q0, q1, q2⟩, t0, t1, t2⟩ := HX3.out
        have HX4 := Lib.hid (HX3.out.set2 v)
        have HR4 := Lib.hid (HR3.out.setX (q := s) (by omega) 2 (.int .i64 v))
        have HC4 := Lib.hid (hc3.setNew hgs 2 (.int .i64 v))
        have HG4 := Lib.hid (grown_setNew hg3' (r := s) (by omega) 2 (.int .i64 v))
        obtain ⟨W4, hW4⟩ : ∃ W4, w3.setCell ⟨s, 2, none⟩ (.int .i64 v) = W4 := ⟨_, rfl⟩
        rw [hW4] at HX4 HR4 HC4 HG4
        clear hc3 hg3 hg3' HA HCA HGA HNE HX3 HR3
        obtain ⟨⟨k0, k1, k2⟩, f0, f1, f2⟩ := HX4.out
        obtain ⟨⟨j0, j1, j2⟩, h0, h1, h2⟩ := HR4.out
        have HCE := Lib.hid ((((HC4.out).setNew hgr 0 (.int .i64 x)).setNew hgr 1 (.int .i64 y)).setNew hgr 2 (.int .i64 v))
        have HGE := Lib.hid (grown_setNew (grown_setNew (grown_setNew HG4.out (show w.heap.size ≤ r by omega) 0 (.int .i64 x)) (show w.heap.size ≤ r by omega) 1 (.int .i64 y)) (show w.heap.size ≤ r by omega) 2 (.int .i64 v))
        go_wp2
        exact bodyPost_ret (v := .agg #[.int .i64 x, .int .i64 y, .int .i64 v]) (by simp [results, Try.results176, go_sem, j0, j1, j2]) rfl ⟨x, y, v, ⟨⟨by omega, by omega⟩, ⟨by omega, by omega⟩, by omega, by omega⟩, rfl, HCE.out.mono (by omega), HGE.out⟩
      · skip
        obtain ⟨⟨k0, k1, k2⟩, f0, f1, f2⟩ := HX2.out
        obtain ⟨⟨j0, j1, j2⟩, h0, h1, h2⟩ := HR2.out
        have HCE := Lib.hid ((((HC2.out).setNew hgr 0 (.int .i64 x)).setNew hgr 1 (.int .i64 y)).setNew hgr 2 (.int .i64 z))
        have HGE := Lib.hid (grown_setNew (grown_setNew (grown_setNew HG2.out (show w.heap.size ≤ r by omega) 0 (.int .i64 x)) (show w.heap.size ≤ r by omega) 1 (.int .i64 y)) (show w.heap.size ≤ r by omega) 2 (.int .i64 z))
        go_wp2
        exact bodyPost_ret (v := .agg #[.int .i64 x, .int .i64 y, .int .i64 z]) (by simp [results, Try.results176, go_sem, j0, j1, j2]) rfl ⟨x, y, z, ⟨⟨by omega, by omega⟩, ⟨by omega, by omega⟩, by omega, by omega⟩, rfl, HCE.out.mono (by omega), HGE.out⟩
end Go.Proofs.Ytfbanjmooknafaa
