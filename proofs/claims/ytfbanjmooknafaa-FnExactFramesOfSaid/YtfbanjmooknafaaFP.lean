/-
  Contract of the laws' comparison of slices of frames.
-/
import Derived.Test.YtfbanjmooknafaaFO
import Derived.Test.YtfbanjmooknafaaPL
namespace Go.Proofs.Ytfbanjmooknafaa
open Go.RowKit
set_option linter.unusedSimpArgs false
set_option linter.unusedVariables false
set_option maxRecDepth 100000

theorem cell_keep {w w' : World} (hb : Below w.heap.size w w') {g o : Nat} {x : Value} (h : w.cell? ⟨g, o, none⟩ = some x) : w'.cell? ⟨g, o, none⟩ = some x :=
  (hb.cell (p := ⟨g, o, none⟩) (World.block_lt_of_cell? w _ h)).trans h
theorem six_keepO {w w' : World} (hb : Below w.heap.size w w') {g h o p : Nat} {a b c x y z : Int}
    (h1 : w.cell? ⟨g, o, none⟩ = some (.int .i64 a) ∧ w.cell? ⟨g, o + 1, none⟩ = some (.int .i64 b) ∧ w.cell? ⟨g, o + 2, none⟩ = some (.int .i64 c) ∧ w.cell? ⟨h, p, none⟩ = some (.int .i64 x) ∧ w.cell? ⟨h, p + 1, none⟩ = some (.int .i64 y) ∧ w.cell? ⟨h, p + 2, none⟩ = some (.int .i64 z)) :
    w'.cell? ⟨g, o, none⟩ = some (.int .i64 a) ∧ w'.cell? ⟨g, o + 1, none⟩ = some (.int .i64 b) ∧ w'.cell? ⟨g, o + 2, none⟩ = some (.int .i64 c) ∧ w'.cell? ⟨h, p, none⟩ = some (.int .i64 x) ∧ w'.cell? ⟨h, p + 1, none⟩ = some (.int .i64 y) ∧ w'.cell? ⟨h, p + 2, none⟩ = some (.int .i64 z) := by
  obtain ⟨p0, p1, p2, q0, q1, q2⟩ := h1
  exact ⟨cell_keep hb p0, cell_keep hb p1, cell_keep hb p2, cell_keep hb q0, cell_keep hb q1, cell_keep hb q2⟩
theorem c_eqFrameS (A A' : Option Addr) (n c c' : Nat) (fs : List P.Fr) (w : World) (hl : fs.length = n) (h : Holds w A (fcs fs)) (h' : Holds w A' (fcs fs)) (hn : n ≤ 1048576) :
    Calls Try.prog 127 #[.slice A n c, .slice A' n c'] w fun e w' => e = .returned (.bool true) ∧ Below w.heap.size w w' := by
  have HL := Lib.hid hl
  have HH := Lib.hid h
  have HH' := Lib.hid h'
  clear h h' hl
  go_enter Try.func127, Try.ntmps127
  go_wp2
  go_loopw [5] (fun i wr => ∃ k : Nat, k ≤ n ∧ i = .int .i64 k ∧ Below w.heap.size w wr) (fun i _ => n - (intOf i).toNat)
  case atStart => exact ⟨0, Nat.zero_le _, rfl, Below.refl _ _⟩
  case round =>
    obtain ⟨k, hk, rfl, hb⟩ := hrel
    by_cases hlt : k < n
    · obtain ⟨g, o, rfl, k0, k1, k2⟩ := fcells HH.out (k := k) (by rw [HL.out]; exact hlt)
      obtain ⟨g', o', rfl, k0', k1', k2'⟩ := fcells HH'.out (k := k) (by rw [HL.out]; exact hlt)
      obtain ⟨f, hf⟩ : ∃ f, fs[k]'(by rw [HL.out]; exact hlt) = f := ⟨_, rfl⟩
      rw [hf] at k0 k1 k2 k0' k1' k2'
      obtain ⟨x, y, z⟩ := f
      simp only at k0 k1 k2 k0' k1' k2'
      have hgl := World.block_lt_of_cell? w _ k0
      have hgl' := World.block_lt_of_cell? w _ k0'
      have j0 := (hb.cell (p := ⟨g, o + k * 3, none⟩) hgl).trans k0
      have j1 := (hb.cell (p := ⟨g, o + k * 3 + 1, none⟩) hgl).trans k1
      have j2 := (hb.cell (p := ⟨g, o + k * 3 + 2, none⟩) hgl).trans k2
      have i0 := (hb.cell (p := ⟨g', o' + k * 3, none⟩) hgl').trans k0'
      have i1 := (hb.cell (p := ⟨g', o' + k * 3 + 1, none⟩) hgl').trans k1'
      have i2 := (hb.cell (p := ⟨g', o' + k * 3 + 2, none⟩) hgl').trans k2'
      clear k0 k1 k2 k0' k1' k2' hf
      go_wp2_with fail
      go_region_held3 (fun w' => w'.cell? ⟨g, o + k * 3, none⟩ = some (.int .i64 x) ∧ w'.cell? ⟨g, o + k * 3 + 1, none⟩ = some (.int .i64 y) ∧ w'.cell? ⟨g, o + k * 3 + 2, none⟩ = some (.int .i64 z) ∧ w'.cell? ⟨g', o' + k * 3, none⟩ = some (.int .i64 x) ∧ w'.cell? ⟨g', o' + k * 3 + 1, none⟩ = some (.int .i64 y) ∧ w'.cell? ⟨g', o' + k * 3 + 2, none⟩ = some (.int .i64 z))
        (first | go_keep | (exact six_keepO hbA ⟨j0, j1, j2, i0, i1, i2⟩) | (exact six_keepO hbA (by assumption)))
        (first | (go_at_call 208; (refine (c_eqFrame x y z _).mono ?_; rintro e wA ⟨rfl, hbA⟩)))
      have hB := hb.trans (Below.mono (show Below wr.heap.size wr wA from ⟨hbA.os, hbA.tape, hbA.output, hbA.size, hbA.block⟩) hb.size)
      clear hbA
      go_wp2
      go_roundw
      case rel => exact ⟨k + 1, by omega, by go_num, hB⟩
      case measure => simp [intOf]; omega
    · go_wp2
      go_ret
      exact ⟨rfl, hb⟩
end Go.Proofs.Ytfbanjmooknafaa
