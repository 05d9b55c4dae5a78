/-
  The walk of the law on ParseFrameText.
-/
import Derived.Test.YtcgbimdlackpeaaPS
namespace Go.Proofs.Ytcgbimdlackpeaa
open Go.RowKit
set_option linter.unusedSimpArgs false
set_option linter.unusedVariables false
set_option maxRecDepth 100000

theorem c_specParseFrameText (s : ByteArray) (w : World) (hs : s.size ≤ 2097152) : Calls Try.prog 41 #[.string s] w fun e w' => e = .returned (.tuple #[fr (P.pfA (B s)) (P.pfB (B s)) (P.pfC (B s)), .bool (P.pfOk (B s))]) ∧ Below w.heap.size w w' := by
  obtain ⟨a, ha⟩ : ∃ a, P.pfA (B s) = a := ⟨_, rfl⟩
  obtain ⟨b, hb⟩ : ∃ b, P.pfB (B s) = b := ⟨_, rfl⟩
  obtain ⟨c, hc⟩ : ∃ c, P.pfC (B s) = c := ⟨_, rfl⟩
  obtain ⟨o, ho⟩ : ∃ o, P.pfOk (B s) = o := ⟨_, rfl⟩
  have HC := Lib.hid (fun W => c_l5Parse s W hs)
  rw [ha, hb, hc, ho] at HC ⊢
  clear ha hb hc ho
  obtain ⟨W0, hW0⟩ : ∃ W0, w.alloc (.cells #[.int .i64 0, .int .i64 0, .int .i64 0] 44) = W0 := ⟨_, rfl⟩
  have hB0 : Below w.heap.size w W0 := by rw [← hW0]; exact (Below.refl _ _).alloc (Nat.le_refl _) _
  have HX0 := Lib.hid (show Box W0 w.heap.size 0 0 0 by rw [← hW0]; exact Box.new w 0 0 0 _)
  go_enter Try.func41, Try.ntmps41
  go_wp2_with fail
  clear hW0
  refine (HC.out _).mono ?_
  rintro e w1 ⟨rfl, hb1⟩
  obtain ⟨⟨k0, k1, k2⟩, f0, f1, f2⟩ := HX0.out.below hb1
  have hB1 := hB0.trans (hb1.mono hB0.size)
  clear hb1
  go_wp2
  exact bodyPost_ret (v := .tuple #[.agg #[.int .i64 a, .int .i64 b, .int .i64 c], .bool o]) (by simp [results, Try.results41, go_sem, k0, k1, k2]) rfl ⟨rfl, ((hB1.setCell (Nat.le_refl _) _).setCell (Nat.le_refl _) _).setCell (Nat.le_refl _) _⟩
theorem c_eqFrame (a b c : Int) (w : World) : Calls Try.prog 43 #[fr a b c, fr a b c] w fun e w' => e = .returned (.bool true) ∧ Below w.heap.size w w' := by
  unfold fr
  go_enter Try.func43, Try.ntmps43
  go_wp2
  go_ret
  exact ⟨rfl, ((Below.refl _ _).alloc (Nat.le_refl _) _).alloc (by simp) _⟩

theorem l_FnExactParseFrameText (s : ByteArray) (hs : s.size ≤ maxLen) (w : World) : Calls Try.prog 14 #[.string s] w fun e w' => e = .returned (.bool true) ∧ Below w.heap.size w w' := by
  unfold maxLen at hs
  by_cases h : s.size ≤ 1048576
  · have HC := Lib.hid (fun W => c_specParseFrameText s W (by omega))
    have HD := Lib.hid (fun W => c_implParseFrameText s W (by omega))
    obtain ⟨a, ha⟩ : ∃ a, P.pfA (B s) = a := ⟨_, rfl⟩
    obtain ⟨b, hb⟩ : ∃ b, P.pfB (B s) = b := ⟨_, rfl⟩
    obtain ⟨c, hc⟩ : ∃ c, P.pfC (B s) = c := ⟨_, rfl⟩
    obtain ⟨o, ho⟩ : ∃ o, P.pfOk (B s) = o := ⟨_, rfl⟩
    rw [ha, hb, hc, ho] at HC HD
    clear ha hb hc ho
    go_enter Try.func14, Try.ntmps14
    go_wp2_with fail
    refine (HC.out _).mono ?_
    rintro e w1 ⟨rfl, hb1⟩
    have hA1 : Below w1.heap.size w1 (w1.alloc (.cells #[.int .i64 a, .int .i64 b, .int .i64 c] 44)) := (Below.refl _ _).alloc (Nat.le_refl _) _
    have HX1 := Lib.hid (Box.new w1 a b c 44)
    obtain ⟨W1, hW1⟩ : ∃ W1, w1.alloc (.cells #[.int .i64 a, .int .i64 b, .int .i64 c] 44) = W1 := ⟨_, rfl⟩
    rw [hW1] at hA1 HX1
    have hB1 := hb1.trans (hA1.mono hb1.size)
    go_wp2_with fail
    clear hW1
    refine (HD.out _).mono ?_
    rintro e w2 ⟨rfl, hb2⟩
    have HX2 := Lib.hid (HX1.out.below hb2)
    have hB2 := hB1.trans (hb2.mono hB1.size)
    have hA2 : Below w2.heap.size w2 (w2.alloc (.cells #[.int .i64 a, .int .i64 b, .int .i64 c] 44)) := (Below.refl _ _).alloc (Nat.le_refl _) _
    have HY2 := Lib.hid (Box.new w2 a b c 44)
    have HX3 := Lib.hid (HX2.out.below hA2)
    obtain ⟨W2, hW2⟩ : ∃ W2, w2.alloc (.cells #[.int .i64 a, .int .i64 b, .int .i64 c] 44) = W2 := ⟨_, rfl⟩
    rw [hW2] at hA2 HY2 HX3
    have hB3 := hB2.trans (hA2.mono hB2.size)
    obtain ⟨⟨k0, k1, k2⟩, _, _, _⟩ := HX3.out
    obtain ⟨⟨j0, j1, j2⟩, _, _, _⟩ := HY2.out
    clear hb1 hA1 hb2 hA2
    go_wp2_with fail
    clear hW2
    refine (c_eqFrame a b c _).mono ?_
    rintro e w3 ⟨rfl, hb3⟩
    have hB4 := hB3.trans (hb3.mono hB3.size)
    clear hb3
    go_wp2
    go_ret
    exact ⟨rfl, hB4⟩
  · go_enter Try.func14, Try.ntmps14
    go_wp2
    go_ret
    exact ⟨rfl, Below.refl _ _⟩
end Go.Proofs.Ytcgbimdlackpeaa
