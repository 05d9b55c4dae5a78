/-
  How the arguments of the laws read: slices of strings, structs of three integers.
-/
import Derived.Test.YtfbanjmooknafaaM
import Derived.Lib.SmallJoins
import Derived.SliceStrings
namespace Go.Proofs.Ytfbanjmooknafaa
open Go.RowKit Go.ChangeShapes Go.WideShapes Go.ChangeAt Go.Joins Go.Deep
set_option linter.unusedSimpArgs false
set_option linter.unusedVariables false

theorem laidOut : laidOutB Try.prog = true := by kernel_rfl
section
variable {H : Type} {enc : TypeId × Value → H} {P : Program} {w : World} {base : Nat} {held : Bool}
theorem holds_of_add {w : World} {a : Addr} {xs : List Value} (h : ∀ (j : Nat) (u : Value), xs[j]? = some u → w.cell? (a.add j) = some u) : Holds w (some a) xs := by
  intro hne
  obtain ⟨b, off, spot⟩ := a
  obtain ⟨u, r, rfl⟩ : ∃ u r, xs = u :: r := by
    cases xs with
    | nil => exact absurd rfl hne
    | cons u r => exact ⟨u, r, rfl⟩
  have hc := h 0 u rfl
  have hspot : spot = Option.none := by simpa [Addr.add] using World.cell?_spot hc
  subst hspot
  refine ⟨b, off, rfl, fun j v hj => ?_⟩
  have := h j v hj
  have hadd : (⟨b, off, Option.none⟩ : Addr).add j = ⟨b, off + j, Option.none⟩ := by unfold Addr.add; split <;> simp_all
  rwa [hadd] at this
theorem open_strs {r : Reach} {b0 : Nat} {t e : TypeId} {v : Value} {d : DataW H} {p : List MemPlace} (ht : P.underlying t = some (.slice e)) (he : P.underlying e = some .string) (hc : P.cellsOf e = 1)
    (hv : Value.okWide P w r b0 t v) (h : DataW.Trod enc P w base (fun _ => true) held t v d p) :
    ∃ (A : Option Addr) (len cap : Nat) (l : List (List UInt8)), v = .slice A len cap ∧ l.length = len ∧ len ≤ maxLen ∧ Holds w A (l.map vs) ∧ ∀ x ∈ l, x.length ≤ maxLen := by
  obtain ⟨a, len, cap, rfl⟩ := okWide_slice ht hv
  obtain ⟨fuel, hf⟩ := h
  rcases open_strings ht he hc hf with ⟨hcs, _⟩ | ⟨x, l, c, ss, hcs, _, hl, hm, hz, _, hcell, hws⟩
  · simp [Value.cells] at hcs
    obtain ⟨rfl, rfl, rfl⟩ := hcs
    exact ⟨Option.none, 0, 0, [], rfl, rfl, by omega, fun hne => absurd rfl hne, by simp⟩
  · simp [Value.cells] at hcs
    obtain ⟨rfl, rfl, rfl⟩ := hcs
    simp only [if_true] at hz
    refine ⟨some x, len, cap, (ss.take len).map B, rfl, by rw [List.length_map, List.length_take]; omega, by omega, ?_, ?_⟩
    · refine holds_of_add fun j u hj => ?_
      have hj2 : j < len := by
        have := (List.getElem?_eq_some_iff.1 hj).1
        simp at this; omega
      rw [hcell j (by omega)]
      rw [List.getElem?_map, List.getElem?_map, List.getElem?_take_of_lt hj2, List.getElem?_eq_getElem (by omega)] at hj
      simp only [Option.map_some, Option.some.injEq] at hj
      rw [← hj, List.getD_eq_getElem?_getD, List.getElem?_eq_getElem (by omega)]; rfl
    · intro x hx
      simp only [List.mem_map] at hx
      obtain ⟨s, hs, rfl⟩ := hx
      rw [B_len]; exact hws s (List.mem_of_mem_take hs)
/-- a struct of three integers, by value -/
theorem open_three {r : Reach} {b0 : Nat} {t : TypeId} {f0 f1 f2 : Field} {v : Value} {d : DataW H} {p : List MemPlace} (hs : P.underlying t = some (.struct #[f0, f1, f2])) (hone : oneCellFields P #[f0, f1, f2] = true) (hC : P.cellsOf t = 3)
    (i0 : P.underlying f0.type = some (.int .i64)) (i1 : P.underlying f1.type = some (.int .i64)) (i2 : P.underlying f2.type = some (.int .i64))
    (hv : Value.okWide P w r b0 t v) (h : DataW.Trod enc P w base (fun _ => true) held t v d p) :
    ∃ a b c : Int, v = .agg #[.int .i64 a, .int .i64 b, .int .i64 c] ∧ (Lit.int .i64 a).wf = true ∧ (Lit.int .i64 b).wf = true ∧ (Lit.int .i64 c).wf = true := by
  obtain ⟨v0, v1, v2, y0, y1, y2, n, rfl, _, _, h0, h1, h2⟩ := open_agg3 hs hone hC hv h
  obtain ⟨a, ha, _, wa⟩ := DataW.trod_int i0 h0
  obtain ⟨b, hb, _, wb⟩ := DataW.trod_int i1 h1
  obtain ⟨c, hc, _, wc⟩ := DataW.trod_int i2 h2
  simp only [List.cons.injEq, and_true] at ha hb hc
  subst ha hb hc
  exact ⟨a, b, c, rfl, wa, wb, wc⟩
end
end Go.Proofs.Ytfbanjmooknafaa
