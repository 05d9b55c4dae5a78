/-
  General facts for the walks over frames: three cells of one block, regions that draw, hex texts of lists of bits.
-/
import Derived.Test.YtfbanjmooknafaaV
import Derived.Test.YtfbanjmooknafaaX
import Derived.Test.YtfbanjmooknafaaPlain2
import Derived.Deep.RegionHeld3
import Derived.Deep.RegionLaw
namespace Go.Proofs.Ytfbanjmooknafaa
open Go.RowKit
set_option linter.unusedSimpArgs false
set_option linter.unusedVariables false
set_option maxRecDepth 100000

theorem c_hexOf_l (x : List UInt8) (w : World) (hs : x.length ≤ 64) (h4 : x.length % 4 = 0) (hb : x.all P.bitB = true) : Calls Try.prog 167 #[.string (bs x)] w fun e w' => e = .returned (.string (bs (P.hexL x))) ∧ w = w' := c_hexOf (bs x) w (by rw [bs_size]; exact hs) (by rw [bs_size]; exact h4) hb
theorem c_l2Hex_l (x : List UInt8) (w : World) (hs : x.length ≤ 64) (h4 : x.length % 4 = 0) (hb : x.all P.bitB = true) : Calls Try.prog 169 #[.string (bs x)] w fun e w' => e = .returned (.string (bs (P.hexL x))) ∧ w = w' := c_l2Hex (bs x) w (by rw [bs_size]; exact hs) (by rw [bs_size]; exact h4) hb
theorem box_keep {w w' : World} (hb : Below w.heap.size w w') {g : Nat} {x y z : Value} (h : w.cell? ⟨g, 0, none⟩ = some x ∧ w.cell? ⟨g, 1, none⟩ = some y ∧ w.cell? ⟨g, 2, none⟩ = some z) :
    w'.cell? ⟨g, 0, none⟩ = some x ∧ w'.cell? ⟨g, 1, none⟩ = some y ∧ w'.cell? ⟨g, 2, none⟩ = some z := by
  obtain ⟨h0, h1, h2⟩ := h
  have hg := World.block_lt_of_cell? w _ h0
  exact ⟨(hb.cell (p := ⟨g, 0, none⟩) hg).trans h0, (hb.cell (p := ⟨g, 1, none⟩) hg).trans h1, (hb.cell (p := ⟨g, 2, none⟩) hg).trans h2⟩
theorem box_keep4 {w w' : World} (hb : Below w.heap.size w w') {g g2 o : Nat} {x y z v : Value} (h : (w.cell? ⟨g, 0, none⟩ = some x ∧ w.cell? ⟨g, 1, none⟩ = some y ∧ w.cell? ⟨g, 2, none⟩ = some z) ∧ w.cell? ⟨g2, o, none⟩ = some v) :
    (w'.cell? ⟨g, 0, none⟩ = some x ∧ w'.cell? ⟨g, 1, none⟩ = some y ∧ w'.cell? ⟨g, 2, none⟩ = some z) ∧ w'.cell? ⟨g2, o, none⟩ = some v :=
  ⟨box_keep hb h.1, (hb.cell (p := ⟨g2, o, none⟩) (World.block_lt_of_cell? w _ h.2)).trans h.2⟩
theorem same_belowF {w w' : World} (h : w = w') : Below w.heap.size w w' := by rw [h]; exact Below.refl _ _
theorem wpAnyH_weaken {P : Program} {md : Region.Mode} {ops : Array Oper} {Q : Exit → Act → World → Prop} {S S' : World → Prop} (hS : ∀ w, S' w → S w) :
    ∀ (fuel : Nat) (listed : Array Bool) (a : Act) (w : World), wpAnyH P md ops Q S' fuel listed a w → wpAnyH P md ops Q S fuel listed a w
  | 0, _, _, _, h => h
  | fuel + 1, listed, a, w, h => ⟨h.1, fun i hi => wpOp_mono (fun a' w' hh => ⟨hS w' hh.1, wpAnyH_weaken hS fuel _ a' w' hh.2⟩) (h.2 i hi)⟩
/-- block g holds three integers, and may be written -/
def Box (w : World) (g : Nat) (a b c : Int) : Prop := (w.cell? ⟨g, 0, none⟩ = some (.int .i64 a) ∧ w.cell? ⟨g, 1, none⟩ = some (.int .i64 b) ∧ w.cell? ⟨g, 2, none⟩ = some (.int .i64 c)) ∧ w.frozen? ⟨g, 0, none⟩ = false ∧ w.frozen? ⟨g, 1, none⟩ = false ∧ w.frozen? ⟨g, 2, none⟩ = false
theorem Box.below {w w' : World} {g : Nat} {a b c : Int} (h : Box w g a b c) (hb : Below w.heap.size w w') : Box w' g a b c := by
  have hg := World.block_lt_of_cell? w _ h.1.1
  exact ⟨box_keep hb h.1, (hb.frozen (p := ⟨g, 0, none⟩) hg).trans h.2.1, (hb.frozen (p := ⟨g, 1, none⟩) hg).trans h.2.2.1, (hb.frozen (p := ⟨g, 2, none⟩) hg).trans h.2.2.2⟩
theorem Box.new (w : World) (a b c : Int) (T : TypeId) : Box (w.alloc (.cells #[.int .i64 a, .int .i64 b, .int .i64 c] T)) w.heap.size a b c :=
  ⟨⟨by simp, by simp, by simp⟩, by simp, by simp, by simp⟩
theorem cell_alloc_keep {w : World} {p : Addr} {o : Obj} {v : Value} (h : w.cell? p = some v) : (w.alloc o).cell? p = some v := by
  rw [((Below.refl w.heap.size w).alloc (Nat.le_refl _) o).cell (World.block_lt_of_cell? w _ h)]; exact h
theorem bcellF {W w1 : World} (hb : Below W.heap.size W w1) : (∀ b o, b < W.heap.size → w1.cell? ⟨b, o, none⟩ = W.cell? ⟨b, o, none⟩) ∧ (∀ b o, b < W.heap.size → w1.frozen? ⟨b, o, none⟩ = W.frozen? ⟨b, o, none⟩) :=
  ⟨fun b o h => hb.cell (p := ⟨b, o, none⟩) h, fun b o h => hb.frozen (p := ⟨b, o, none⟩) h⟩
theorem cell_set3 {w : World} {g h o : Nat} {v x y z : Value} (hc : w.cell? ⟨g, o, none⟩ = some v) (hne : g ≠ h) : (((w.setCell ⟨h, 0, none⟩ x).setCell ⟨h, 1, none⟩ y).setCell ⟨h, 2, none⟩ z).cell? ⟨g, o, none⟩ = some v := by
  rw [World.cell?_setCell_other _ _ _ _ (fun e => hne (by injection e with e; exact e.symm)), World.cell?_setCell_other _ _ _ _ (fun e => hne (by injection e with e; exact e.symm)), World.cell?_setCell_other _ _ _ _ (fun e => hne (by injection e with e; exact e.symm))]
  exact hc
theorem Box.set3_other {w : World} {g h : Nat} {a b c : Int} {x y z : Value} (hb : Box w g a b c) (hne : g ≠ h) : Box (((w.setCell ⟨h, 0, none⟩ x).setCell ⟨h, 1, none⟩ y).setCell ⟨h, 2, none⟩ z) g a b c :=
  ⟨⟨cell_set3 hb.1.1 hne, cell_set3 hb.1.2.1 hne, cell_set3 hb.1.2.2 hne⟩, by simp only [World.frozen?_setCell]; exact hb.2⟩
theorem Box.set3 {w : World} {g : Nat} {a b c x y z : Int} (hb : Box w g a b c) : Box (((w.setCell ⟨g, 0, none⟩ (.int .i64 x)).setCell ⟨g, 1, none⟩ (.int .i64 y)).setCell ⟨g, 2, none⟩ (.int .i64 z)) g x y z := by
  obtain ⟨⟨k0, k1, k2⟩, hf⟩ := hb
  have e1 : (w.setCell ⟨g, 0, none⟩ (.int .i64 x)).cell? ⟨g, 1, none⟩ = some (.int .i64 b) := by rw [World.cell?_setCell_other _ _ _ _ (fun e => by injection e with _ e; cases e)]; exact k1
  have e2 : ((w.setCell ⟨g, 0, none⟩ (.int .i64 x)).setCell ⟨g, 1, none⟩ (.int .i64 y)).cell? ⟨g, 2, none⟩ = some (.int .i64 c) := by rw [World.cell?_setCell_other _ _ _ _ (fun e => by injection e with _ e; cases e), World.cell?_setCell_other _ _ _ _ (fun e => by injection e with _ e; cases e)]; exact k2
  refine ⟨⟨?_, ?_, ?_⟩, by simp only [World.frozen?_setCell]; exact hf⟩
  · rw [World.cell?_setCell_other _ _ _ _ (fun e => by injection e with _ e; cases e), World.cell?_setCell_other _ _ _ _ (fun e => by injection e with _ e; cases e), World.cell?_setCell_same _ _ _ k0]
  · rw [World.cell?_setCell_other _ _ _ _ (fun e => by injection e with _ e; cases e), World.cell?_setCell_same _ _ _ e1]
  · rw [World.cell?_setCell_same _ _ _ e2]
end Go.Proofs.Ytfbanjmooknafaa
