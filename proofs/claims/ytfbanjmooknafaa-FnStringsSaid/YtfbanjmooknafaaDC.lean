/-
  Contracts of the cursor that the draws read from.
-/
import Derived.Test.YtfbanjmooknafaaM
namespace Go.Proofs.Ytfbanjmooknafaa
open Go.RowKit
set_option linter.unusedSimpArgs false
set_option linter.unusedVariables false
set_option maxRecDepth 100000

/-- the cursor at block g over the bytes l, moved on at most m times -/
structure CurAt (w : World) (g : Nat) (A : Option Addr) (l : List UInt8) (cap at' : Nat) (sd : Int) : Prop where
  c0 : w.cell? ⟨g, 0, none⟩ = some (.slice A l.length cap)
  c1 : w.cell? ⟨g, 1, none⟩ = some (.int .i64 (at' : Int))
  c2 : w.cell? ⟨g, 2, none⟩ = some (.int .u64 sd)
  f1 : w.frozen? ⟨g, 1, none⟩ = false
  f2 : w.frozen? ⟨g, 2, none⟩ = false
  hs : Holds w A (ub l)
  ne : ub l ≠ [] → ∀ b o, A = some ⟨b, o, none⟩ → b < g
def Cur (w : World) (g : Nat) (l : List UInt8) (m : Nat) : Prop := ∃ A cap at' sd, CurAt w g A l cap at' sd ∧ at' ≤ m
/-- the call returns a number of a range, the cursor moves on, and nothing else turns -/
def DrewInt (lo hi : Int) (g : Nat) (l : List UInt8) (m : Nat) (w : World) (e : Ending) (w' : World) : Prop := ∃ n : Int, lo ≤ n ∧ n ≤ hi ∧ e = .returned (.int .i64 n) ∧ Cur w' g l m ∧ w.grownBy w' (some g)
theorem CurAt.drewN {w : World} {g : Nat} {A : Option Addr} {l : List UInt8} {cap at' : Nat} {sd : Int} (h : CurAt w g A l cap at' sd) (n : Nat) : CurAt (w.drewN n) g A l cap at' sd := ⟨h.c0, h.c1, h.c2, h.f1, h.f2, h.hs, h.ne⟩
theorem grown_set {a w : World} {g : Nat} (h : a.grownBy w (some g)) (o : Nat) (v : Value) : a.grownBy (w.setCell ⟨g, o, none⟩ v) (some g) :=
  ⟨h.os, h.tape, h.output, by rw [World.size_setCell]; exact h.size, fun i hi hn => by
    rw [Below.heap_setCell w ⟨g, o, none⟩ v i (fun e => hn (by rw [e]))]
    exact h.block i hi hn⟩
theorem grown_drewN (w : World) (n g : Nat) : w.grownBy (w.drewN n) (some g) := ⟨rfl, rfl, rfl, Nat.le_refl _, fun _ _ _ => rfl⟩
theorem CurAt.step {w : World} {g : Nat} {A : Option Addr} {l : List UInt8} {cap t : Nat} {sd : Int} (h : CurAt w g A l cap t sd) (x : Int) :
    CurAt ((w.setCell ⟨g, 1, none⟩ (.int .i64 ((t : Int) + 1))).setCell ⟨g, 2, none⟩ (.int .u64 x)) g A l cap (t + 1) x := by
  have k2 : (w.setCell ⟨g, 1, none⟩ (.int .i64 ((t : Int) + 1))).cell? ⟨g, 2, none⟩ = some (.int .u64 sd) := by rw [World.cell?_setCell_other _ _ _ _ (fun e => by injection e with _ e; cases e)]; exact h.c2
  refine ⟨?_, ?_, ?_, by simp only [World.frozen?_setCell]; exact h.f1, by simp only [World.frozen?_setCell]; exact h.f2, ?_, h.ne⟩
  · rw [World.cell?_setCell_other _ _ _ _ (fun e => by injection e with _ e; cases e), World.cell?_setCell_other _ _ _ _ (fun e => by injection e with _ e; cases e)]; exact h.c0
  · rw [World.cell?_setCell_other _ _ _ _ (fun e => by injection e with _ e; cases e), World.cell?_setCell_same _ _ _ h.c1]; rfl
  · rw [World.cell?_setCell_same _ _ _ k2]
  · intro hne
    obtain ⟨b, o, hA, hcell⟩ := h.hs hne
    have hbg := Nat.ne_of_lt (h.ne hne b o hA)
    refine ⟨b, o, hA, fun j u hj => ?_⟩
    rw [World.cell?_setCell_other _ _ _ _ (fun e => hbg (by injection e with e; exact e.symm)), World.cell?_setCell_other _ _ _ _ (fun e => hbg (by injection e with e; exact e.symm))]
    exact hcell j u hj
theorem grown_more {a w : World} {g : Nat} (h : a.grownBy w (some g)) (n : Nat) : a.grownBy (w.drewN n) (some g) := ⟨h.os, h.tape, h.output, h.size, h.block⟩
theorem and255 (a : Int) : 0 ≤ wrap64 (bits .and .u64 a 255) ∧ wrap64 (bits .and .u64 a 255) ≤ 255 := by
  have h : ∃ n : Nat, n ≤ 255 ∧ bits .and .u64 a 255 = (n : Int) := by
    refine ⟨((BitVec.ofInt 64 a) &&& (BitVec.ofInt 64 255)).toNat, ?_, ?_⟩
    · rw [BitVec.toNat_and]
      have : (BitVec.ofInt 64 255).toNat = 255 := by decide
      rw [this]; exact Nat.and_le_right
    · show IntKind.u64.wrap (((BitVec.ofInt 64 a) &&& (BitVec.ofInt 64 255)).toNat : Int) = _
      have h2 : ((BitVec.ofInt 64 a) &&& (BitVec.ofInt 64 255)).toNat ≤ 255 := by
        rw [BitVec.toNat_and]
        have : (BitVec.ofInt 64 255).toNat = 255 := by decide
        rw [this]; exact Nat.and_le_right
      rw [IntKind.wrap_u64]
      omega
  obtain ⟨n, hn, he⟩ := h
  rw [he]
  unfold wrap64
  omega
theorem c_next (g : Nat) (l : List UInt8) (m : Nat) (w : World) (hc : Cur w g l m) (hm : m ≤ 1000000000) (hl : l.length ≤ 70000) : Calls Try.prog 210 #[.pointer (some ⟨g, 0, none⟩)] w (DrewInt 0 255 g l (m + 1) w) := by
  obtain ⟨A, cap, t, sd, h, htm⟩ := hc
  have H := Lib.hid h
  have h0 := h.c0
  have h1 := h.c1
  have h2 := h.c2
  have f1 := h.f1
  have f2 := h.f2
  obtain ⟨n, hn⟩ : ∃ n, l.length = n := ⟨_, rfl⟩
  rw [hn] at h0 hl
  have HN := Lib.hid hn
  clear h hn
  by_cases hlt : t < n
  · have htl : t < l.length := by rw [HN.out]; exact hlt
    obtain ⟨b, o, rfl, hcl⟩ := H.out.hs (by intro e; have h9 : l.length = 0 := (by rw [← ub_len l, e]; rfl); omega)
    have hcb := hcl t _ (ub_at htl)
    obtain ⟨c, hcc⟩ : ∃ c, l[t] = c := ⟨_, rfl⟩
    rw [hcc] at hcb
    have hc8 := c.toNat_lt
    have hlt' : ((t : Int) < (n : Int)) := by omega
    have ht0 : (0 : Int) ≤ (t : Int) := by omega
    clear hcl hcc
    go_enter Try.func210, Try.ntmps210
    go_wp2
    go_quiet (fail)
    obtain ⟨q1, hq1⟩ : ∃ x, x = nq := ⟨_, rfl⟩
    subst hq1
    go_wp2
    go_quiet (fail)
    go_wp2
    generalize IntKind.u64.wrap (IntKind.u64.wrap (IntKind.u64.wrap (sd * 6364136223846793005) + (c.toNat : Int)) + 875875) = X
    generalize q1 + nq = q2
    have HC := Lib.hid ((H.out.drewN q2).step X)
    have HG := Lib.hid (grown_set (grown_set (grown_drewN w q2 g) 1 (.int .i64 ((t : Int) + 1))) 2 (.int .u64 X))
    generalize ((w.drewN q2).setCell ⟨g, 1, none⟩ (.int .i64 ((t : Int) + 1))).setCell ⟨g, 2, none⟩ (.int .u64 X) = V at *
    obtain ⟨k0, k1, k2, p1, p2, _, _⟩ := HC.out
    rw [HN.out] at k0
    have hlt2 : ((t : Int) + 1 ≤ (n : Int)) := by omega
    have k1' : V.cell? ⟨g, 1, none⟩ = some (.int .i64 ((t : Int) + 1)) := by rw [k1]; rfl
    clear k1 h0 h1 h2 f1 f2 hcb
    go_wp2
    go_quiet (fail)
    go_wp2
    go_ret
    exact ⟨_, by omega, by omega, rfl, ⟨_, cap, t + 1, X, HC.out.drewN nq, by omega⟩, grown_more HG.out nq⟩
  · have hlt' : ¬ ((t : Int) < (n : Int)) := by omega
    have ht0 : (0 : Int) ≤ (t : Int) := by omega
    go_enter Try.func210, Try.ntmps210
    go_wp2
    go_quiet (fail)
    go_wp2
    generalize IntKind.u64.wrap (IntKind.u64.wrap (IntKind.u64.wrap (sd * 6364136223846793005)) + 875875) = X
    have HC := Lib.hid ((H.out.drewN nq).step X)
    have HG := Lib.hid (grown_set (grown_set (grown_drewN w nq g) 1 (.int .i64 ((t : Int) + 1))) 2 (.int .u64 X))
    generalize ((w.drewN nq).setCell ⟨g, 1, none⟩ (.int .i64 ((t : Int) + 1))).setCell ⟨g, 2, none⟩ (.int .u64 X) = V at *
    obtain ⟨k0, k1, k2, p1, p2, _, _⟩ := HC.out
    rw [HN.out] at k0
    have hlt2 : ¬ ((t : Int) + 1 ≤ (n : Int)) := by omega
    have k1' : V.cell? ⟨g, 1, none⟩ = some (.int .i64 ((t : Int) + 1)) := by rw [k1]; rfl
    clear k1 h0 h1 h2 f1 f2
    go_wp2
    go_quiet (fail)
    go_wp2
    go_ret
    obtain ⟨r1, r2⟩ := and255 (X / 1099511627776)
    exact ⟨_, r1, r2, rfl, ⟨A, cap, t + 1, X, HC.out.drewN nq, by omega⟩, grown_more HG.out nq⟩
/-- a cursor that has just been made -/
theorem cur_new {w : World} {A : Option Addr} {l : List UInt8} (cap : Nat) (T : TypeId) (h : Holds w A (ub l)) : Cur (w.alloc (.cells #[.slice A l.length cap, .int .i64 0, .int .u64 0] T)) w.heap.size l 0 := by
  refine ⟨A, cap, 0, 0, ⟨by simp, by simp, by simp, by simp, by simp, ?_, ?_⟩, Nat.le_refl _⟩
  · intro hne
    obtain ⟨b, o, hA, hc⟩ := h hne
    refine ⟨b, o, hA, fun j u hj => ?_⟩
    have h1 := hc j u hj
    rw [((Below.refl w.heap.size w).alloc (Nat.le_refl _) _).cell (p := ⟨b, o + j, none⟩) (World.block_lt_of_cell? w _ h1)]; exact h1
  · intro hne b o hA
    obtain ⟨b', o', hA', hc⟩ := h hne
    rw [hA'] at hA
    injection hA with hA
    injection hA with e1 e2
    obtain ⟨u, hu⟩ : ∃ u, (ub l)[0]? = some u := by
      cases hl : ub l with
      | nil => exact absurd hl hne
      | cons a b => exact ⟨a, rfl⟩
    have := World.block_lt_of_cell? w _ (hc 0 u hu)
    simp at this
    omega
end Go.Proofs.Ytfbanjmooknafaa
