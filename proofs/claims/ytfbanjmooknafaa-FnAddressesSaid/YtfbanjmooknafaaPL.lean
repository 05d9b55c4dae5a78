/-
  The walk of the law on ParseFrameText.
-/
import Derived.Test.YtfbanjmooknafaaPS
namespace Go.Proofs.Ytfbanjmooknafaa
open Go.RowKit
set_option linter.unusedSimpArgs false
set_option linter.unusedVariables false
set_option maxRecDepth 100000

theorem c_specParseFrameText (s : ByteArray) (w : World) (hs : s.size ≤ 2097152) : Calls Try.prog 123 #[.string s] w fun e w' => e = .returned (.tuple #[fr (P.pfA (B s)) (P.pfB (B s)) (P.pfC (B s)), .bool (P.pfOk (B s))]) ∧ Below w.heap.size w w' := by
  obtain ⟨a, ha⟩ : ∃ a, P.pfA (B s) = a := ⟨_, rfl⟩
  obtain ⟨b, hb⟩ : ∃ b, P.pfB (B s) = b := ⟨_, rfl⟩
  obtain ⟨c, hc⟩ : ∃ c, P.pfC (B s) = c := ⟨_, rfl⟩
  obtain ⟨o, ho⟩ : ∃ o, P.pfOk (B s) = o := ⟨_, rfl⟩
  have HC := Lib.hid (fun W => c_l5Parse s W hs)
  rw [ha, hb, hc, ho] at HC ⊢
  clear ha hb hc ho
  obtain ⟨W0, hW0⟩ : ∃ W0, w.alloc (.cells #[.int .i64 0, .int .i64 0, .int .i64 0] 57) = W0 := ⟨_, rfl⟩
  have hB0 : Below w.heap.size w W0 := by rw [← hW0]; exact (Below.refl _ _).alloc (Nat.le_refl _) _
  have HX0 := Lib.hid (show Box W0 w.heap.size 0 0 0 by rw [← hW0]; exact Box.new w 0 0 0 _)
  go_enter Try.func123, Try.ntmps123
  go_wp2_with fail
  clear hW0
  refine (HC.out _).mono ?_
  rintro e w1 ⟨rfl, hb1⟩
  obtain ⟨⟨k0, k1, k2⟩, f0, f1, f2⟩ := HX0.out.below hb1
  have hB1 := hB0.trans (hb1.mono hB0.size)
  clear hb1
  go_wp2
  exact bodyPost_ret (v := .tuple #[.agg #[.int .i64 a, .int .i64 b, .int .i64 c], .bool o]) (by simp [results, Try.results123, go_sem, k0, k1, k2]) rfl ⟨rfl, ((hB1.setCell (Nat.le_refl _) _).setCell (Nat.le_refl _) _).setCell (Nat.le_refl _) _⟩
theorem c_eqFrame (a b c : Int) (w : World) : Calls Try.prog 208 #[fr a b c, fr a b c] w fun e w' => e = .returned (.bool true) ∧ Below w.heap.size w w' := by
  unfold fr
  go_enter Try.func208, Try.ntmps208
  go_wp2
  go_ret
  exact ⟨rfl, ((Below.refl _ _).alloc (Nat.le_refl _) _).alloc (by simp) _⟩

end Go.Proofs.Ytfbanjmooknafaa
