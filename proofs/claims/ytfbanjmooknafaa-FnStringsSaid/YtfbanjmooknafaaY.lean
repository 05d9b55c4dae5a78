/-
  Byte slices that the call itself makes out of a string: what their cells hold, behind stores and copies.
-/
import Derived.Test.YtfbanjmooknafaaW
import Derived.Lib.ConvBytes
import Derived.Lib.LazyBuf
namespace Go.Proofs.Ytfbanjmooknafaa
open Go.RowKit
set_option linter.unusedSimpArgs false
set_option linter.unusedVariables false
set_option maxRecDepth 100000

/-- block g holds these bytes from its first cell on, and they may be written -/
def Bys (w : World) (g : Nat) (l : List UInt8) : Prop := ∀ (j : Nat) (h : j < l.length), w.cell? ⟨g, j, none⟩ = some (.int .u8 ((l[j]).toNat : Int)) ∧ w.frozen? ⟨g, j, none⟩ = false
theorem Bys.drewN {w : World} {g : Nat} {l : List UInt8} (h : Bys w g l) (n : Nat) : Bys (w.drewN n) g l := h
theorem Bys.lt {w : World} {g : Nat} {l : List UInt8} (h : Bys w g l) (h0 : 0 < l.length) : g < w.heap.size := World.block_lt_of_cell? w _ (h 0 h0).1
theorem Bys.below {w w' : World} {g : Nat} {l : List UInt8} (h : Bys w g l) (hb : Below w.heap.size w w') : Bys w' g l := fun j hj => by
  have hg := h.lt (by omega)
  exact ⟨(hb.cell (p := ⟨g, j, none⟩) hg).trans (h j hj).1, (hb.frozen (p := ⟨g, j, none⟩) hg).trans (h j hj).2⟩
theorem Bys.set {w : World} {g : Nat} {l : List UInt8} (h : Bys w g l) (i : Nat) (c : UInt8) : Bys (w.setCell ⟨g, i, none⟩ (.int .u8 (c.toNat : Int))) g (l.set i c) := fun j hj => by
  have hj' : j < l.length := by simpa using hj
  refine ⟨?_, by rw [World.frozen?_setCell]; exact (h j hj').2⟩
  by_cases e : i = j
  · subst e
    rw [World.cell?_setCell_same _ _ _ (h i hj').1]; simp
  · rw [World.cell?_setCell_other _ _ _ _ (fun e2 => e (by injection e2)), (h j hj').1]; simp [e]
theorem Bys.splice {w : World} {g o : Nat} {l m : List UInt8} (h : Bys w g l) (hm : o + m.length ≤ l.length) : Bys (w.setCells g o (ub m)) g (l.take o ++ (m ++ l.drop (o + m.length))) := fun j hj => by
  have hjl : j < l.length := by simp at hj; omega
  refine ⟨?_, by rw [World.frozen?_setCells]; exact (h j hjl).2⟩
  by_cases h1 : j < o
  · rw [World.cell?_setCells_out _ _ _ _ _ (fun _ _ => .inl h1), (h j hjl).1]
    rw [List.getElem_append_left (by rw [List.length_take]; omega), List.getElem_take]
  · by_cases h2 : j < o + m.length
    · obtain ⟨d, rfl⟩ : ∃ d, j = o + d := ⟨j - o, by omega⟩
      have hin := World.cell?_setCells_in g (ub m) o w (fun j hj => by
        rw [ub_len] at hj
        rw [(h (o + j) (by omega)).1]; rfl) d (by rw [ub_len]; omega)
      rw [hin]
      rw [List.getElem_append_right (by rw [List.length_take]; omega)]
      simp only [List.length_take, Nat.min_eq_left (show o ≤ l.length by omega), Nat.add_sub_cancel_left]
      rw [List.getElem_append_left (by omega)]
      unfold ub; simp
    · rw [World.cell?_setCells_out _ _ _ _ _ (fun _ _ => .inr (by rw [ub_len]; show o + m.length ≤ j; omega)), (h j hjl).1]
      have e := List.getElem?_append_right (l₁ := l.take o) (l₂ := m ++ l.drop (o + m.length)) (i := j) (by rw [List.length_take]; omega)
      have e2 := List.getElem?_append_right (l₁ := m) (l₂ := l.drop (o + m.length)) (i := j - (l.take o).length) (by rw [List.length_take]; omega)
      rw [e2, List.getElem?_drop, List.length_take, Nat.min_eq_left (show o ≤ l.length by omega), show o + m.length + (j - o - m.length) = j by omega, List.getElem?_eq_getElem hjl, List.getElem?_eq_getElem hj] at e
      injection e with e
      rw [e]
theorem bytesWorld_below (w : World) (e : TypeId) (s : ByteArray) : Below w.heap.size w (Lib.bytesWorld w e s) :=
  ⟨by simp [Lib.bytesWorld, World.freeze, World.alloc, World.drew, -World.alloc_eq, -World.drew_eq], by simp [Lib.bytesWorld, World.freeze, World.alloc, World.drew, -World.alloc_eq, -World.drew_eq], by simp [Lib.bytesWorld, World.freeze, World.alloc, World.drew, -World.alloc_eq, -World.drew_eq], by rw [Lib.bytesWorld_size]; omega, fun k hk => Lib.bytesWorld_at_old w e s k hk⟩
theorem bytesWorld_bys (w : World) (e : TypeId) (s : ByteArray) : Bys (Lib.bytesWorld w e s) w.heap.size (B s) := fun j hj => by
  rw [B_len] at hj
  refine ⟨?_, ?_⟩
  · rw [Lib.bytesWorld_cell w e s j hj, List.getD_eq_getElem?_getD]
    have : s.data.toList[j]? = some ((B s)[j]'(by rw [B_len]; exact hj)) := List.getElem?_eq_getElem (by rw [← Lib.size_eq]; exact hj)
    rw [this]; rfl
  · have h1 := Lib.bytesWorld_at_new w e s
    have h2 : s.size ≤ (Lib.bytesCells w e s).size := by
      unfold Lib.bytesCells
      rw [Array.size_append, Array.size_map]; exact Nat.le_add_right _ _
    unfold World.frozen?
    rw [h1]
    simp
    omega
section
variable {P : Program}
/-- 'string(b[o:o+n])' -/
theorem run_str_bys (src dst e : TypeId) (hs : P.underlying src = some (.slice e)) (he : P.underlying e = some (.int .u8)) (hd : P.underlying dst = some .string) {W : World} {g : Nat} {l : List UInt8} (h : Bys W g l) (o n cap : Nat) (hn : o + n ≤ l.length) :
    (convert src dst (.slice (some ⟨g, o, Option.none⟩) n cap)).run P W = .ok (.string (bs ((l.drop o).take n))) W := by
  rw [← strOfNums_ub]
  have hlen : ((l.drop o).take n).length = n := by rw [List.length_take, List.length_drop]; omega
  exact run_convert_bytes_arg (P := P) W src e hs he g o n cap (((l.drop o).take n).map fun c => (c.toNat : Int)) (by rw [List.length_map]; exact hlen) (fun i hi => by
    rw [(h (o + i) (by omega)).1]
    congr 2
    rw [List.getD_eq_getElem?_getD, List.getElem?_map, List.getElem?_take_of_lt hi, List.getElem?_drop, List.getElem?_eq_getElem (by omega)]; rfl) dst hd
end
end Go.Proofs.Ytfbanjmooknafaa
