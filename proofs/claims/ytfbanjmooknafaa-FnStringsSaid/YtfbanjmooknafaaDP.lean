/-
  Contracts of the cursor's choices: a number, a yes or no, one of some texts, one of some numbers.
-/
import Derived.Test.YtfbanjmooknafaaDC
namespace Go.Proofs.Ytfbanjmooknafaa
open Go.RowKit
set_option linter.unusedSimpArgs false
set_option linter.unusedVariables false
set_option maxRecDepth 100000

theorem Cur.mono {w : World} {g : Nat} {l : List UInt8} {m m' : Nat} (h : Cur w g l m) (hm : m ≤ m') : Cur w g l m' := by
  obtain ⟨A, cap, t, sd, hc, ht⟩ := h
  exact ⟨A, cap, t, sd, hc, by omega⟩
def DrewBool (g : Nat) (l : List UInt8) (m : Nat) (w : World) (e : Ending) (w' : World) : Prop := ∃ b : Bool, e = .returned (.bool b) ∧ Cur w' g l m ∧ w.grownBy w' (some g)
def DrewStr (p : List UInt8 → Prop) (g : Nat) (l : List UInt8) (m : Nat) (w : World) (e : Ending) (w' : World) : Prop := ∃ x : List UInt8, p x ∧ e = .returned (.string (bs x)) ∧ Cur w' g l m ∧ w.grownBy w' (some g)
theorem c_pick (n : Int) (g : Nat) (l : List UInt8) (m : Nat) (w : World) (hc : Cur w g l m) (hm : m ≤ 900000000) (hl : l.length ≤ 70000) (hn1 : 1 ≤ n) (hn2 : n ≤ 100000) : Calls Try.prog 144 #[.pointer (some ⟨g, 0, none⟩), .int .i64 n] w (DrewInt 0 (n - 1) g l (m + 2) w) := by
  have HC := Lib.hid hc
  clear hc
  by_cases h1 : n ≤ 1
  · have he : n = 1 := by omega
    subst he
    go_enter Try.func144, Try.ntmps144
    go_wp2
    go_ret
    exact ⟨0, by omega, by omega, rfl, HC.out.mono (by omega), World.grownBy.refl _ _⟩
  · have hn0 : ¬ n = 0 := by omega
    by_cases h2 : 200 < n
    · go_enter Try.func144, Try.ntmps144
      go_wp2_with fail
      refine (c_next g l m _ HC.out (by omega) hl).mono ?_
      rintro e w1 ⟨x, x0, x1, rfl, hc1, hg1⟩
      have HC1 := Lib.hid hc1
      go_wp2_with fail
      refine (c_next g l (m + 1) _ HC1.out (by omega) hl).mono ?_
      rintro e w2 ⟨y, y0, y1, rfl, hc2, hg2⟩
      have hg := only_trans hg1 hg2
      have HC2 := Lib.hid hc2
      have HG := Lib.hid hg
      have hr1 := Int.emod_nonneg (x * 256 + y) hn0
      have hr2 := Int.emod_lt_of_pos (x * 256 + y) (show 0 < n by omega)
      have hxy : 0 ≤ x * 256 + y := by omega
      clear hc1 hg1 hc2 hg2 hg
      go_wp2
      go_ret
      exact ⟨_, hr1, by omega, rfl, HC2.out.mono (by omega), HG.out⟩
    · go_enter Try.func144, Try.ntmps144
      go_wp2_with fail
      refine (c_next g l m _ HC.out (by omega) hl).mono ?_
      rintro e w1 ⟨x, x0, x1, rfl, hc1, hg1⟩
      have HC1 := Lib.hid hc1
      have HG := Lib.hid hg1
      have hr1 := Int.emod_nonneg x hn0
      have hr2 := Int.emod_lt_of_pos x (show 0 < n by omega)
      clear hc1 hg1
      go_wp2
      go_ret
      exact ⟨_, hr1, by omega, rfl, HC1.out.mono (by omega), HG.out⟩
theorem c_one (n : Int) (g : Nat) (l : List UInt8) (m : Nat) (w : World) (hc : Cur w g l m) (hm : m ≤ 900000000) (hl : l.length ≤ 70000) (hn1 : 1 ≤ n) (hn2 : n ≤ 100000) : Calls Try.prog 147 #[.pointer (some ⟨g, 0, none⟩), .int .i64 n] w (DrewBool g l (m + 2) w) := by
  have HC := Lib.hid hc
  clear hc
  go_enter Try.func147, Try.ntmps147
  go_wp2_with fail
  refine (c_pick n g l m _ HC.out hm hl hn1 hn2).mono ?_
  rintro e w1 ⟨x, x0, x1, rfl, hc1, hg1⟩
  have HC1 := Lib.hid hc1
  have HG := Lib.hid hg1
  clear hc1 hg1
  go_wp2
  go_ret
  exact ⟨_, rfl, HC1.out, HG.out⟩
theorem holds_new (w : World) (xs : List Value) (T : TypeId) : Holds (w.alloc (.cells xs.toArray T)) (some ⟨w.heap.size, 0, none⟩) xs := fun hne => ⟨w.heap.size, 0, rfl, fun j u hj => by
  have : j < xs.length := (List.getElem?_eq_some_iff.1 hj).1
  rw [Nat.zero_add, World.cell?_alloc_new]
  simpa using hj⟩
theorem holds_grown {w w' : World} {g : Nat} {A : Option Addr} {xs : List Value} (h : Holds w A xs) (hne : ∀ b o, A = some ⟨b, o, none⟩ → b ≠ g) (hg : w.grownBy w' (some g)) : Holds w' A xs := fun hx => by
  obtain ⟨b, o, hA, hc⟩ := h hx
  refine ⟨b, o, hA, fun j u hj => ?_⟩
  have h1 := hc j u hj
  have hb := World.block_lt_of_cell? w _ h1
  have hh := hg.block b hb (fun e => hne b o hA (Option.some.inj e))
  unfold World.cell? at *
  rw [hh]; exact h1
theorem map_ne {α β : Type} {xs : List α} {f : α → β} {n : Nat} (hx : xs.length = n) (hn : 1 ≤ n) : xs.map f ≠ [] := by
  intro e
  rw [List.map_eq_nil_iff] at e
  rw [e] at hx
  have : ([] : List α).length = 0 := rfl
  omega
theorem c_of (A : Option Addr) (n c : Nat) (xs : List (List UInt8)) (g : Nat) (l : List UInt8) (m : Nat) (w : World) (hx : xs.length = n) (h : Holds w A (xs.map vs)) (hne : ∀ b o, A = some ⟨b, o, none⟩ → b ≠ g) (hc : Cur w g l m) (hm : m ≤ 900000000) (hl : l.length ≤ 70000) (hn1 : 1 ≤ n) (hn2 : n ≤ 100000) :
    Calls Try.prog 152 #[.pointer (some ⟨g, 0, none⟩), .slice A n c] w (DrewStr (· ∈ xs) g l (m + 2) w) := by
  obtain ⟨b, o, rfl, hcell⟩ := h (map_ne hx hn1)
  have HH := Lib.hid h
  have HNE := Lib.hid hne
  have HC := Lib.hid hc
  have HX := Lib.hid hx
  clear h hne hc hx hcell
  go_enter Try.func152, Try.ntmps152
  go_wp2_with fail
  refine (c_pick n g l m _ HC.out hm hl (by omega) (by omega)).mono ?_
  rintro e w1 ⟨x, x0, x1, rfl, hc1, hg1⟩
  have HC1 := Lib.hid hc1
  have HG := Lib.hid hg1
  obtain ⟨k, rfl⟩ : ∃ k : Nat, x = (k : Int) := ⟨x.toNat, by omega⟩
  have hkn : k < n := by omega
  have hkx : k < xs.length := by rw [HX.out]; exact hkn
  obtain ⟨b', o', hA', hcell⟩ := holds_grown HH.out HNE.out HG.out (map_ne HX.out hn1)
  injection hA' with hA'
  injection hA' with e1 e2
  subst e1 e2
  obtain ⟨y, hy⟩ : ∃ y, xs[k] = y := ⟨_, rfl⟩
  have hck : w1.cell? ⟨b, o + k, none⟩ = some (.string (bs y)) := hcell k _ (by rw [List.getElem?_map, List.getElem?_eq_getElem hkx, hy]; rfl)
  have HY := Lib.hid (show y ∈ xs by rw [← hy]; exact List.getElem_mem _)
  clear hc1 hg1 hcell hy
  go_wp2
  go_ret
  exact ⟨y, HY.out, rfl, HC1.out, HG.out⟩
/-- whole numbers as cells -/
def vi (l : List Int) : List Value := l.map fun n => Value.int .i64 n
theorem c_among (A : Option Addr) (n c : Nat) (xs : List Int) (lo hi : Int) (g : Nat) (l : List UInt8) (m : Nat) (w : World) (hx : xs.length = n) (h : Holds w A (vi xs)) (hr : ∀ x ∈ xs, lo ≤ x ∧ x ≤ hi) (hne : ∀ b o, A = some ⟨b, o, none⟩ → b ≠ g) (hc : Cur w g l m) (hm : m ≤ 900000000) (hl : l.length ≤ 70000) (hn1 : 1 ≤ n) (hn2 : n ≤ 100000) :
    Calls Try.prog 143 #[.pointer (some ⟨g, 0, none⟩), .slice A n c] w (DrewInt lo hi g l (m + 2) w) := by
  obtain ⟨b, o, rfl, hcell⟩ := h (map_ne hx hn1)
  have HH := Lib.hid h
  have HNE := Lib.hid hne
  have HC := Lib.hid hc
  have HX := Lib.hid hx
  have HR := Lib.hid hr
  clear h hne hc hx hcell hr
  go_enter Try.func143, Try.ntmps143
  go_wp2_with fail
  refine (c_pick n g l m _ HC.out hm hl (by omega) (by omega)).mono ?_
  rintro e w1 ⟨x, x0, x1, rfl, hc1, hg1⟩
  have HC1 := Lib.hid hc1
  have HG := Lib.hid hg1
  obtain ⟨k, rfl⟩ : ∃ k : Nat, x = (k : Int) := ⟨x.toNat, by omega⟩
  have hkn : k < n := by omega
  have hkx : k < xs.length := by rw [HX.out]; exact hkn
  obtain ⟨b', o', hA', hcell⟩ := holds_grown HH.out HNE.out HG.out (map_ne HX.out hn1)
  injection hA' with hA'
  injection hA' with e1 e2
  subst e1 e2
  obtain ⟨y, hy⟩ : ∃ y, xs[k] = y := ⟨_, rfl⟩
  have hck : w1.cell? ⟨b, o + k, none⟩ = some (.int .i64 y) := hcell k _ (by unfold vi; rw [List.getElem?_map, List.getElem?_eq_getElem hkx, hy]; rfl)
  have HY := Lib.hid (HR.out y (by rw [← hy]; exact List.getElem_mem _))
  clear hc1 hg1 hcell hy
  go_wp2
  go_ret
  exact ⟨y, HY.out.1, HY.out.2, rfl, HC1.out, HG.out⟩
end Go.Proofs.Ytfbanjmooknafaa
