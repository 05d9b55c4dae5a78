/-
  Contracts of the functions that say whether a frame is valid, and of the conversion of a law's frame.
-/
import Derived.Test.YtfbanjmooknafaaW
namespace Go.Proofs.Ytfbanjmooknafaa
open Go.RowKit
set_option linter.unusedSimpArgs false
set_option linter.unusedVariables false

/-- a frame as a value -/
abbrev fr (a b c : Int) : Value := .agg #[.int .i64 a, .int .i64 b, .int .i64 c]
def frOk (a b c : Int) : Bool := P.inB a 1 4 && P.inB b 1 65535 && P.inB c 0 16777215
theorem c_isAddress (n : Int) (w : World) : Calls Try.prog 183 #[.int .i64 n] w fun e w' => e = .returned (.bool (P.inB n 1 65535)) ∧ w = w' := by
  go_enter Try.func183, Try.ntmps183
  go_wp2_with (go_at_call 141; refine (c_within _ _ _ _).mono ?_; rintro e w' ⟨rfl, rfl⟩)
  go_ret
  exact ⟨rfl, rfl⟩
theorem c_l5Address (n : Int) (w : World) : Calls Try.prog 185 #[.int .i64 n] w fun e w' => e = .returned (.bool (P.inB n 1 65535)) ∧ w = w' := by
  go_enter Try.func185, Try.ntmps185
  go_wp2_with (go_at_call 145; refine (c_l1In _ _ _ _).mono ?_; rintro e w' ⟨rfl, rfl⟩)
  go_ret
  exact ⟨rfl, rfl⟩
theorem c_toFrame (a b c : Int) (w : World) : Calls Try.prog 207 #[fr a b c] w fun e w' => e = .returned (fr a b c) ∧ Below w.heap.size w w' := by
  unfold fr
  go_enter Try.func207, Try.ntmps207
  go_wp2
  exact bodyPost_ret (v := .agg #[.int .i64 a, .int .i64 b, .int .i64 c]) (by simp [results, Try.results207, go_sem]) rfl ⟨rfl, by repeat (first | exact Below.refl _ _ | refine Below.setCell ?_ (by first | (simp; done) | (simp; omega)) _ | refine Below.alloc ?_ (by first | (simp; done) | (simp; omega)) _)⟩
theorem c_l5Good (a b c : Int) (w : World) : Calls Try.prog 178 #[fr a b c] w fun e w' => e = .returned (.bool (frOk a b c)) ∧ Below w.heap.size w w' := by
  unfold fr frOk
  cases h1 : P.inB a 1 4 with
  | false =>
    go_enter Try.func178, Try.ntmps178
    go_wp2_with (first | (go_at_call 145; refine (c_l1In _ _ _ _).mono ?_; rintro e w' ⟨rfl, rfl⟩) | (go_at_call 185; refine (c_l5Address _ _).mono ?_; rintro e w' ⟨rfl, rfl⟩))
    go_ret
    exact ⟨rfl, (Below.refl _ _).alloc (Nat.le_refl _) _⟩
  | true =>
    cases h2 : P.inB b 1 65535 with
    | false =>
      go_enter Try.func178, Try.ntmps178
      go_wp2_with (first | (go_at_call 145; refine (c_l1In _ _ _ _).mono ?_; rintro e w' ⟨rfl, rfl⟩) | (go_at_call 185; refine (c_l5Address _ _).mono ?_; rintro e w' ⟨rfl, rfl⟩))
      go_ret
      exact ⟨rfl, (Below.refl _ _).alloc (Nat.le_refl _) _⟩
    | true =>
      go_enter Try.func178, Try.ntmps178
      go_wp2_with (first | (go_at_call 145; refine (c_l1In _ _ _ _).mono ?_; rintro e w' ⟨rfl, rfl⟩) | (go_at_call 185; refine (c_l5Address _ _).mono ?_; rintro e w' ⟨rfl, rfl⟩))
      go_ret
      exact ⟨rfl, (Below.refl _ _).alloc (Nat.le_refl _) _⟩
theorem c_implIsValidFrame (a b c : Int) (w : World) : Calls Try.prog 115 #[fr a b c] w fun e w' => e = .returned (.bool (frOk a b c)) ∧ Below w.heap.size w w' := by
  unfold fr frOk
  cases h1 : P.inB a 1 4 with
  | false =>
    go_enter Try.func115, Try.ntmps115
    go_wp2_with (first | (go_at_call 141; refine (c_within _ _ _ _).mono ?_; rintro e w' ⟨rfl, rfl⟩) | (go_at_call 183; refine (c_isAddress _ _).mono ?_; rintro e w' ⟨rfl, rfl⟩))
    go_ret
    exact ⟨rfl, (Below.refl _ _).alloc (Nat.le_refl _) _⟩
  | true =>
    cases h2 : P.inB b 1 65535 with
    | false =>
      go_enter Try.func115, Try.ntmps115
      go_wp2_with (first | (go_at_call 141; refine (c_within _ _ _ _).mono ?_; rintro e w' ⟨rfl, rfl⟩) | (go_at_call 183; refine (c_isAddress _ _).mono ?_; rintro e w' ⟨rfl, rfl⟩))
      go_ret
      exact ⟨rfl, (Below.refl _ _).alloc (Nat.le_refl _) _⟩
    | true =>
      go_enter Try.func115, Try.ntmps115
      go_wp2_with (first | (go_at_call 141; refine (c_within _ _ _ _).mono ?_; rintro e w' ⟨rfl, rfl⟩) | (go_at_call 183; refine (c_isAddress _ _).mono ?_; rintro e w' ⟨rfl, rfl⟩))
      go_ret
      exact ⟨rfl, (Below.refl _ _).alloc (Nat.le_refl _) _⟩
/-- the three cells of a boxed argument, later -/
theorem box3 {w w2 : World} {x y z : Value} {T : TypeId} (hb : Below (w.alloc (.cells #[x, y, z] T)).heap.size (w.alloc (.cells #[x, y, z] T)) w2) :
    w2.cell? ⟨w.heap.size, 0, none⟩ = some x ∧ w2.cell? ⟨w.heap.size, 1, none⟩ = some y ∧ w2.cell? ⟨w.heap.size, 2, none⟩ = some z := by
  refine ⟨?_, ?_, ?_⟩
  · rw [hb.cell (p := ⟨w.heap.size, 0, none⟩) (by simp)]; simp
  · rw [hb.cell (p := ⟨w.heap.size, 1, none⟩) (by simp)]; simp
  · rw [hb.cell (p := ⟨w.heap.size, 2, none⟩) (by simp)]; simp
theorem box_below {w w2 : World} {o : Obj} (hb : Below (w.alloc o).heap.size (w.alloc o) w2) : Below w.heap.size w w2 := ((Below.refl _ _).alloc (Nat.le_refl _) o).trans (hb.mono (by simp))
end Go.Proofs.Ytfbanjmooknafaa
