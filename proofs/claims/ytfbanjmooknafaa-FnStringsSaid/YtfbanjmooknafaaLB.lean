/-
  What the great laws share: the opening of a law's code, what draws return.
-/
import Derived.Test.YtfbanjmooknafaaDB
import Derived.Test.YtfbanjmooknafaaF
namespace Go.Proofs.Ytfbanjmooknafaa
open Go.RowKit Go.ChangeShapes Go.WideShapes Go.ChangeAt Go.Joins Go.Deep
set_option linter.unusedSimpArgs false
set_option linter.unusedVariables false
set_option maxRecDepth 100000

section
variable {H : Type} {enc : TypeId × Value → H} {P : Program} {w : World} {base : Nat} {held : Bool}
/-- how a law's code reads -/
theorem open_bytes {r : Reach} {b0 : Nat} {t e : TypeId} {v : Value} {d : DataW H} {p : List MemPlace} (ht : P.underlying t = some (.slice e)) (he : P.underlying e = some (.int .u8)) (hc : P.cellsOf e = 1)
    (hv : Value.okWide P w r b0 t v) (h : DataW.Trod enc P w base (fun _ => true) held t v d p) :
    ∃ (A : Option Addr) (len cap : Nat) (l : List UInt8), v = .slice A len cap ∧ l.length = len ∧ len ≤ maxLen ∧ Holds w A (ub l) := by
  obtain ⟨a, len, cap, rfl⟩ := okWide_slice ht hv
  obtain ⟨fuel, hf⟩ := h
  rcases open_ints ht he hc hf with ⟨hcs, _⟩ | ⟨x, len', c, zs, hcs, _, hl, hm, hz, _, hcell, hwz⟩
  · simp [Value.cells] at hcs
    obtain ⟨rfl, rfl, rfl⟩ := hcs
    exact ⟨Option.none, 0, 0, [], rfl, rfl, by omega, fun hne => absurd rfl hne⟩
  · simp [Value.cells] at hcs
    obtain ⟨rfl, rfl, rfl⟩ := hcs
    simp only [if_true] at hz
    refine ⟨some x, len, cap, (zs.take len).map fun n => UInt8.ofNat n.toNat, rfl, by simp; omega, by omega, holds_of_add fun j u hj => ?_⟩
    have hj2 : j < len := by
      have := (List.getElem?_eq_some_iff.1 hj).1
      simp [ub] at this; omega
    rw [hcell j (by omega)]
    unfold ub at hj
    rw [List.getElem?_map, List.getElem?_map, List.getElem?_take_of_lt hj2, List.getElem?_eq_getElem (by omega)] at hj
    simp only [Option.map_some, Option.some.injEq] at hj
    rw [← hj]
    have hb := range_u8 hwz j
    have e : zs.getD j 0 = zs[j]'(by omega) := by simp [List.getD, List.getElem?_eq_getElem (show j < zs.length by omega)]
    rw [List.getD_eq_getElem?_getD] at e
    rw [e] at hb
    rw [List.getD_eq_getElem?_getD, e]
    congr 2
    simp only [UInt8.toNat_ofNat']
    omega
end
theorem holds_belowU {w w' : World} {A : Option Addr} {xs : List Value} (h : Holds w A xs) (hb : Below w.heap.size w w') : Holds w' A xs := fun hne => by
  obtain ⟨g, o, hA, hc⟩ := h hne
  refine ⟨g, o, hA, fun j u hj => ?_⟩
  have h1 := hc j u hj
  rw [hb.cell (p := ⟨g, o + j, Option.none⟩) (World.block_lt_of_cell? w _ h1)]; exact h1
theorem c_vBig (A : Option Addr) (n c : Nat) (w : World) : Calls Try.prog 15 #[.slice A n c] w fun e w' => e = .returned (.bool (decide ((65536 : Int) < n))) ∧ w = w' := by
  go_enter Try.func15, Try.ntmps15
  go_wp2
  go_ret
  exact ⟨rfl, rfl⟩
/-- what a draw of a text and a number returns -/
def GaveSI (N : Nat) (lo hi : Int) (w : World) (e : Ending) (w' : World) : Prop := ∃ (x : List UInt8) (n : Int), x.length ≤ N ∧ lo ≤ n ∧ n ≤ hi ∧ e = .returned (.tuple #[.string (bs x), .int .i64 n]) ∧ Below w.heap.size w w'
def GaveSS (N : Nat) (w : World) (e : Ending) (w' : World) : Prop := ∃ x y : List UInt8, x.length ≤ N ∧ y.length ≤ N ∧ e = .returned (.tuple #[.string (bs x), .string (bs y)]) ∧ Below w.heap.size w w'
def GaveS (N : Nat) (w : World) (e : Ending) (w' : World) : Prop := ∃ x : List UInt8, x.length ≤ N ∧ e = .returned (.string (bs x)) ∧ Below w.heap.size w w'
def GaveII (lo hi : Int) (w : World) (e : Ending) (w' : World) : Prop := ∃ a b : Int, (lo ≤ a ∧ a ≤ hi) ∧ (lo ≤ b ∧ b ≤ hi) ∧ e = .returned (.tuple #[.int .i64 a, .int .i64 b]) ∧ Below w.heap.size w w'
def GaveI (lo hi : Int) (w : World) (e : Ending) (w' : World) : Prop := ∃ a : Int, lo ≤ a ∧ a ≤ hi ∧ e = .returned (.int .i64 a) ∧ Below w.heap.size w w'
/-- the cursor's block is new: what was there is as it was -/
theorem cur_below {w W0 w' : World} {o : Obj} (h0 : w.alloc o = W0) (hg : W0.grownBy w' (some w.heap.size)) : Below w.heap.size w w' := by
  have hb : Below w.heap.size w W0 := by rw [← h0]; exact (Below.refl _ _).alloc (Nat.le_refl _) o
  exact hb.grown hg hb.size (fun k hk => by injection hk with hk; omega)
end Go.Proofs.Ytfbanjmooknafaa
