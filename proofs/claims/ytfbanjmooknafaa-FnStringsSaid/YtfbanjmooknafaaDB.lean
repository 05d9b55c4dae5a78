/-
  Contracts of the draws of bit strings and of spoilt texts.
-/
import Derived.Test.YtfbanjmooknafaaDP
namespace Go.Proofs.Ytfbanjmooknafaa
open Go.RowKit
set_option linter.unusedSimpArgs false
set_option linter.unusedVariables false
set_option maxRecDepth 100000

/-- a list of at most N bytes -/
def AtMost (N : Nat) (x : List UInt8) : Prop := x.length ≤ N
/-- a list of at most N bits -/
def BitsTo (N : Nat) (x : List UInt8) : Prop := x.length ≤ N ∧ x.all P.bitB = true
theorem Cur.drewN {w : World} {g : Nat} {l : List UInt8} {m : Nat} (h : Cur w g l m) (n : Nat) : Cur (w.drewN n) g l m := by
  obtain ⟨A, cap, t, sd, hc, ht⟩ := h
  exact ⟨A, cap, t, sd, hc.drewN n, ht⟩
theorem DrewStr.weaken {p q : List UInt8 → Prop} {g : Nat} {l : List UInt8} {m m' : Nat} {w w' : World} {e : Ending} (h : DrewStr p g l m w e w') (hpq : ∀ x, p x → q x) (hm : m ≤ m') : DrewStr q g l m' w e w' := by
  obtain ⟨x, hx, he, hc, hg⟩ := h
  exact ⟨x, hpq x hx, he, hc.mono hm, hg⟩
theorem add_bd {a b : List UInt8} {M N : Nat} (h1 : a.length ≤ M) (h2 : b.length ≤ N) : (a ++ b).length ≤ M + N := by rw [List.length_append]; omega
theorem str_nil {t : ByteArray} (h : t.size = 0) : t.toList.isEmpty = true ∧ t.toList = [] := by
  have : t.toList = [] := by rw [ByteArray.toList_eq]; exact List.eq_nil_of_length_eq_zero (by show (B t).length = 0; rw [B_len]; exact h)
  exact ⟨by rw [this]; rfl, this⟩
theorem str_some {t : ByteArray} (h : ¬ t.size = 0) : t.toList.isEmpty = false ∧ ¬ t.toList = [] := by
  have : ¬ t.toList = [] := by
    rw [ByteArray.toList_eq]; intro e
    apply h
    rw [← B_len]
    show t.data.toList.length = 0
    rw [e]; rfl
  refine ⟨?_, this⟩
  cases ht : t.toList with
  | nil => exact absurd ht this
  | cons a b => rfl
set_option maxHeartbeats 1000000 in
theorem c_spoilt (t s : ByteArray) (g : Nat) (l : List UInt8) (m : Nat) (w : World) (hc : Cur w g l m) (hm : m ≤ 800000000) (hl : l.length ≤ 70000) (ht : t.size ≤ 90000) (hs1 : 1 ≤ s.size) (hs2 : s.size ≤ 1000) : Calls Try.prog 171 #[.pointer (some ⟨g, 0, none⟩), .string t, .string s] w (DrewStr (AtMost (t.size + 1)) g l (m + 6) w) := by
  have HC := Lib.hid hc
  clear hc
  by_cases h0 : t.size = 0
  · obtain ⟨e0, e1⟩ := str_nil h0
    have hi1 : (1 : Int) ≤ (s.size : Int) := by omega
    have HR := Lib.hid (show (B (s.extract 0 1)).length ≤ t.size + 1 by rw [B_ext, List.length_take]; omega)
    clear h0
    go_enter Try.func171, Try.ntmps171
    go_wp2
    go_ret
    exact ⟨B (s.extract 0 1), HR.out, rfl, HC.out.mono (by omega), World.grownBy.refl _ _⟩
  · obtain ⟨e0, e1⟩ := str_some h0
    have h1t : 1 ≤ t.size := by omega
    clear h0
    go_enter Try.func171, Try.ntmps171
    go_wp2_with fail
    refine (c_pick _ g l m _ HC.out (by omega) hl (by omega) (by omega)).mono ?_
    rintro e w1 ⟨x, x0, x1, rfl, hc1, hg1⟩
    have HC1 := Lib.hid hc1
    obtain ⟨k, rfl⟩ : ∃ k : Nat, x = (k : Int) := ⟨x.toNat, by omega⟩
    have hkt : k < t.size := by omega
    go_wp2_with fail
    refine (c_pick _ g l (m + 2) _ HC1.out (by omega) hl (by omega) (by omega)).mono ?_
    rintro e w2 ⟨y, y0, y1, rfl, hc2, hg2⟩
    have HC2 := Lib.hid hc2
    obtain ⟨j, rfl⟩ : ∃ j : Nat, y = (j : Int) := ⟨y.toNat, by omega⟩
    have hjs : j < s.size := by omega
    have hj1 : (1 : Int) ≤ ((s.extract j s.size).size : Int) := by simp; omega
    have hjs' : (j : Int) ≤ (s.size : Int) := by omega
    go_wp2_with fail
    refine (c_pick 3 g l (m + 4) _ HC2.out (by omega) hl (by omega) (by omega)).mono ?_
    rintro e w3 ⟨z, z0, z1, rfl, hc3, hg3⟩
    have HC3 := Lib.hid hc3
    have HG := Lib.hid (only_trans (only_trans hg1 hg2) hg3)
    clear hc1 hc2 hc3 hg1 hg2 hg3
    obtain ⟨u, hu⟩ : ∃ u, (s.extract j s.size).extract 0 1 = u := ⟨_, rfl⟩
    obtain ⟨t1, ht1⟩ : ∃ u, t.extract 0 k = u := ⟨_, rfl⟩
    obtain ⟨t2, ht2⟩ : ∃ u, t.extract k t.size = u := ⟨_, rfl⟩
    obtain ⟨t3, ht3⟩ : ∃ u, t.extract (k + 1) t.size = u := ⟨_, rfl⟩
    have lu : (B u).length ≤ 1 := by rw [← hu, B_ext, List.length_take]; omega
    have l1 : (B t1).length = k := by rw [← ht1, B_ext, List.length_take, List.length_drop, B_len]; omega
    have l2 : (B t2).length + k = t.size := by rw [← ht2, B_ext, List.length_take, List.length_drop, B_len]; omega
    have l3 : (B t3).length + k + 1 = t.size := by rw [← ht3, B_ext, List.length_take, List.length_drop, B_len]; omega
    have a1 : ∀ W, (Op.stringOp .add t1 u).run Try.prog W = .ok (.string (bs (B t1 ++ B u))) W := fun W => run_add_s W t1 u (by omega)
    have a2 : ∀ W, (Op.stringOp .add (bs (B t1 ++ B u)) t2).run Try.prog W = .ok (.string (bs (B t1 ++ (B u ++ B t2)))) W := fun W => by rw [← List.append_assoc]; exact run_add_s W (bs (B t1 ++ B u)) t2 (by rw [B_bs, List.length_append]; omega)
    have a3 : ∀ W, (Op.stringOp .add (bs (B t1 ++ B u)) t3).run Try.prog W = .ok (.string (bs (B t1 ++ (B u ++ B t3)))) W := fun W => by rw [← List.append_assoc]; exact run_add_s W (bs (B t1 ++ B u)) t3 (by rw [B_bs, List.length_append]; omega)
    have a4 : ∀ W, (Op.stringOp .add t1 t3).run Try.prog W = .ok (.string (bs (B t1 ++ B t3))) W := fun W => run_add_s W t1 t3 (by omega)
    have H2 := Lib.hid (show (B t1 ++ (B u ++ B t2)).length ≤ t.size + 1 by rw [List.length_append, List.length_append]; omega)
    have H3 := Lib.hid (show (B t1 ++ (B u ++ B t3)).length ≤ t.size + 1 by rw [List.length_append, List.length_append]; omega)
    have H4 := Lib.hid (show (B t1 ++ B t3).length ≤ t.size + 1 by rw [List.length_append]; omega)
    have hw1 : IntKind.i64.wrap ((k : Int) + 1) = (k : Int) + 1 := IntWalk.i64_in _ (by omega)
    have hn1 : ((k : Int) + 1).toNat = k + 1 := by omega
    have hp1 : 0 ≤ (k : Int) + 1 := by omega
    have hp2 : (k : Int) + 1 ≤ (t.size : Int) := by omega
    have hp0 : 0 ≤ (k : Int) := by omega
    have hp3 : (k : Int) ≤ (t.size : Int) := by omega
    clear lu l1 l2 l3
    have hz : z = 0 ∨ z = 1 ∨ z = 2 := by omega
    rcases hz with rfl | rfl | rfl
    · go_wp2
      go_quiet (fail)
      go_wp2
      go_ret
      exact ⟨_, H2.out, rfl, HC3.out.drewN _, grown_more HG.out _⟩
    · go_wp2
      go_quiet (fail)
      go_wp2
      go_ret
      exact ⟨_, H3.out, rfl, HC3.out.drewN _, grown_more HG.out _⟩
    · go_wp2
      go_quiet (fail)
      go_wp2
      go_ret
      exact ⟨_, H4.out, rfl, HC3.out.drewN _, grown_more HG.out _⟩
/-- the cursor outlives what is made beside it -/
theorem Cur.below {w w' : World} {g : Nat} {l : List UInt8} {m : Nat} (h : Cur w g l m) (hb : Below w.heap.size w w') : Cur w' g l m := by
  obtain ⟨A, cap, t, sd, hc, ht⟩ := h
  have hg := World.block_lt_of_cell? w _ hc.c0
  refine ⟨A, cap, t, sd, ⟨?_, ?_, ?_, ?_, ?_, ?_, hc.ne⟩, ht⟩
  · rw [hb.cell (p := ⟨g, 0, none⟩) hg]; exact hc.c0
  · rw [hb.cell (p := ⟨g, 1, none⟩) hg]; exact hc.c1
  · rw [hb.cell (p := ⟨g, 2, none⟩) hg]; exact hc.c2
  · rw [hb.frozen (p := ⟨g, 1, none⟩) hg]; exact hc.f1
  · rw [hb.frozen (p := ⟨g, 2, none⟩) hg]; exact hc.f2
  · intro hne
    obtain ⟨b, o, hA, hcell⟩ := hc.hs hne
    refine ⟨b, o, hA, fun j u hj => ?_⟩
    have h1 := hcell j u hj
    rw [hb.cell (p := ⟨b, o + j, none⟩) (World.block_lt_of_cell? w _ h1)]; exact h1
/-- .. and what is made above a mark that lies above it -/
theorem Cur.belowB {w w' : World} {g B : Nat} {l : List UInt8} {m : Nat} (h : Cur w g l m) (hb : Below B w w') (hg : g < B) : Cur w' g l m := by
  obtain ⟨A, cap, t, sd, hc, ht⟩ := h
  refine ⟨A, cap, t, sd, ⟨?_, ?_, ?_, ?_, ?_, ?_, hc.ne⟩, ht⟩
  · rw [hb.cell (p := ⟨g, 0, none⟩) hg]; exact hc.c0
  · rw [hb.cell (p := ⟨g, 1, none⟩) hg]; exact hc.c1
  · rw [hb.cell (p := ⟨g, 2, none⟩) hg]; exact hc.c2
  · rw [hb.frozen (p := ⟨g, 1, none⟩) hg]; exact hc.f1
  · rw [hb.frozen (p := ⟨g, 2, none⟩) hg]; exact hc.f2
  · intro hne
    obtain ⟨b, o, hA, hcell⟩ := hc.hs hne
    have hbg := hc.ne hne b o hA
    refine ⟨b, o, hA, fun j u hj => ?_⟩
    rw [hb.cell (p := ⟨b, o + j, none⟩) (Nat.lt_trans hbg hg)]; exact hcell j u hj
theorem Cur.lt {w : World} {g : Nat} {l : List UInt8} {m : Nat} (h : Cur w g l m) : g < w.heap.size := by
  obtain ⟨A, cap, t, sd, hc, ht⟩ := h
  exact World.block_lt_of_cell? w _ hc.c0
theorem Cur.alloc {w : World} {g : Nat} {l : List UInt8} {m : Nat} (h : Cur w g l m) (o : Obj) : Cur (w.alloc o) g l m := h.below ((Below.refl _ _).alloc (Nat.le_refl _) o)
theorem grown_alloc {a w : World} {g : Nat} (h : a.grownBy w (some g)) (o : Obj) : a.grownBy (w.alloc o) (some g) := by
  have hb := (Below.refl w.heap.size w).alloc (Nat.le_refl _) o
  exact only_grown h hb
/-- 'c.of([]string{..})': the slice lies in a block of its own -/
theorem lit_ne {w : World} {g : Nat} {l : List UInt8} {m : Nat} (h : Cur w g l m) : ∀ b o, (some ⟨w.heap.size, 0, none⟩ : Option Addr) = some ⟨b, o, none⟩ → b ≠ g := fun b o e hb => by
  have := h.lt
  injection e with e
  injection e with e1
  omega
theorem c_bits (n : Nat) (g : Nat) (l : List UInt8) (m : Nat) (w : World) (hc : Cur w g l m) (hm : m ≤ 700000000) (hl : l.length ≤ 70000) (hn : n ≤ 200) : Calls Try.prog 170 #[.pointer (some ⟨g, 0, none⟩), .int .i64 n] w (DrewStr (BitsTo n) g l (m + 1000) w) := by
  have HC := Lib.hid hc
  clear hc
  go_enter Try.func170, Try.ntmps170
  go_wp2_with fail
  refine (c_pick _ g l m _ HC.out (by omega) hl (by omega) (by omega)).mono ?_
  rintro e w1 ⟨x, x0, x1, rfl, hc1, hg1⟩
  have HC1 := Lib.hid hc1
  have HG1 := Lib.hid hg1
  obtain ⟨k, rfl⟩ : ∃ k : Nat, x = (k : Int) := ⟨x.toNat, by omega⟩
  have hkn : k ≤ n := by omega
  clear hc1 hg1
  go_wp2
  go_loopw [5, 6] (fun s i wr => ∃ (j : Nat) (y : List UInt8), j ≤ k ∧ i = .int .i64 j ∧ s = .string (bs y) ∧ y.length + j = k ∧ y.all P.bitB = true ∧ Cur wr g l (m + 2 + 2 * (k - j)) ∧ w.grownBy wr (some g)) (fun _ i _ => (intOf i).toNat)
  case atStart => exact ⟨k, [], Nat.le_refl _, rfl, rfl, by simp, rfl, by rw [Nat.sub_self]; exact HC1.out, HG1.out⟩
  case round =>
    obtain ⟨j, y, hj, rfl, rfl, hy, hyb, hcr, hgr⟩ := hrel
    have HCR := Lib.hid hcr
    have HGR := Lib.hid hgr
    have HYB := Lib.hid hyb
    have hy2 : y.length + j ≤ k := by omega
    have hy3 : y.length ≤ n := by omega
    have HY := Lib.hid hy
    clear hcr hgr hyb hy
    by_cases hlt : 0 < j
    · have HA := Lib.hid (holds_new wr ([[48], [49]].map vs) 9)
      have HCA := Lib.hid (HCR.out.alloc (.cells ([[48], [49]].map vs).toArray 9))
      have HGA := Lib.hid (grown_alloc HGR.out (.cells ([[48], [49]].map vs).toArray 9))
      have HNE := Lib.hid (lit_ne HCR.out)
      go_wp2_with fail
      refine (c_of _ 2 2 [[48], [49]] g l (m + 2 + 2 * (k - j)) _ rfl (by exact HA.out) HNE.out (by exact HCA.out) (by omega) hl (by omega) (by omega)).mono ?_
      rintro e w4 ⟨c, hcm, rfl, hc4, hg4⟩
      have HC4 := Lib.hid hc4
      have HG4 := Lib.hid (only_trans HGA.out hg4)
      have hcl : c.length = 1 ∧ c.all P.bitB = true := by
        rcases List.mem_cons.1 hcm with rfl | hcm
        · exact ⟨rfl, rfl⟩
        · rcases List.mem_cons.1 hcm with rfl | hcm
          · exact ⟨rfl, rfl⟩
          · cases hcm
      obtain ⟨hc1, hcb⟩ := hcl
      have hadd : ∀ W, (Op.stringOp .add (bs y) (bs c)).run Try.prog W = .ok (.string (bs (y ++ c))) W := fun W => run_add W y c (by omega)
      have HN := Lib.hid (show (y ++ c).length + (j - 1) = k ∧ (y ++ c).all P.bitB = true by
        rw [List.length_append, List.all_append, HYB.out, hcb, hc1]; have := HY.out; exact ⟨by omega, rfl⟩)
      clear hc4 hg4 hcm hcb hc1
      go_wp2
      go_roundw
      case rel => exact ⟨j - 1, y ++ c, by omega, by go_num, rfl, HN.out.1, HN.out.2, HC4.out.mono (by omega), HG4.out⟩
      case measure => simp [intOf]; omega
    · go_wp2
      go_ret
      exact ⟨y, ⟨hy3, HYB.out⟩, rfl, HCR.out.mono (by omega), HGR.out⟩

theorem DrewStr.atMost {N M : Nat} {g : Nat} {l : List UInt8} {m m' : Nat} {w w' : World} {e : Ending} (h : DrewStr (BitsTo N) g l m w e w') (hN : N ≤ M) (hm : m ≤ m') : DrewStr (AtMost M) g l m' w e w' := h.weaken (fun _ hx => Nat.le_trans hx.1 hN) hm
def strLen : Value → Nat
  | .string s => s.size
  | _ => 0
set_option maxHeartbeats 1000000 in
theorem c_anyBits (n : Nat) (g : Nat) (l : List UInt8) (m : Nat) (w : World) (hc : Cur w g l m) (hm : m ≤ 600000000) (hl : l.length ≤ 70000) (hn : n ≤ 200) : Calls Try.prog 146 #[.pointer (some ⟨g, 0, none⟩), .int .i64 n] w (DrewStr (AtMost 300) g l (m + 2000) w) := by
  have HC := Lib.hid hc
  clear hc
  go_enter Try.func146, Try.ntmps146
  go_wp2_with fail
  refine (c_bits n g l m _ HC.out (by omega) hl hn).mono ?_
  rintro e w1 ⟨x, ⟨hx, _⟩, rfl, hc1, hg1⟩
  have HC1 := Lib.hid hc1
  have HG1 := Lib.hid hg1
  clear hc1 hg1
  go_wp2_with fail
  refine (c_one 12 g l (m + 1000) _ HC1.out (by omega) hl (by omega) (by omega)).mono ?_
  rintro e w2 ⟨b2, rfl, hc2, hg2⟩
  have HC2 := Lib.hid hc2
  have HG2 := Lib.hid (only_trans HG1.out hg2)
  clear hc2 hg2
  cases b2 with
  | false =>
    have hxv : x.length ≤ 201 := by omega
    go_wp2_with fail
    refine (c_one 24 g l (m + 1000 + 2) _ HC2.out (by omega) hl (by omega) (by omega)).mono ?_
    rintro e w5 ⟨b5, rfl, hc5, hg5⟩
    have HC5 := Lib.hid hc5
    have HG5 := Lib.hid (only_trans HG2.out hg5)
    clear hc5 hg5
    cases b5 with
    | false =>
      go_wp2
      go_ret
      exact ⟨x, by show _ ≤ 300; omega, rfl, HC5.out.mono (by omega), HG5.out⟩
    | true =>
      go_wp2
      go_loopw [5] (fun s wr => ∃ (q : Nat) (y : List UInt8), s = .string (bs y) ∧ q ≤ y.length ∧ y.length ≤ 300 ∧ Cur wr g l (m + 1100 + 2 * q) ∧ w.grownBy wr (some g)) (fun s _ => 65 - (strLen s))
      case atStart => exact ⟨0, x, rfl, by omega, by omega, HC5.out.mono (by omega), HG5.out⟩
      case round =>
        obtain ⟨q, y, rfl, hqy, hy3, hcr, hgr⟩ := hrel
        have HCR := Lib.hid hcr
        have HGR := Lib.hid hgr
        have hys := bs_size y
        have HYS := Lib.hid hys
        clear hcr hgr hys
        go_wp2_with fail
        refine (c_pick 2 g l (m + 1100 + 2 * q) _ HCR.out (by omega) hl (by omega) (by omega)).mono ?_
        rintro e w6 ⟨p, p0, p1, rfl, hc6, hg6⟩
        have HC6 := Lib.hid hc6
        have HG6 := Lib.hid (only_trans HGR.out hg6)
        clear hc6 hg6
        by_cases hlt : ((bs y).size : Int) < 64 + p
        · have hadd : ∀ W, (Op.stringOp .add (bs y) ⟨#[49]⟩).run Try.prog W = .ok (.string (bs (y ++ [49]))) W := fun W => run_add W y [49] (by simp; omega)
          have HN := Lib.hid (show (y ++ [49]).length = y.length + 1 by simp)
          have HLT := Lib.hid (show y.length < 65 by have := HYS.out; omega)
          go_wp2
          go_roundw
          case rel => exact ⟨q + 1, y ++ [49], rfl, by rw [HN.out]; omega, by rw [HN.out]; have := HLT.out; omega, HC6.out.mono (by omega), HG6.out⟩
          case measure =>
            have h1 := HLT.out
            have h2 := bs_size (y ++ [49])
            have h3 := HN.out
            have h4 := HYS.out
            show 65 - (bs (y ++ [49])).size < 65 - (bs y).size
            omega
        · go_wp2
          go_ret
          exact ⟨y, hy3, rfl, HC6.out.mono (by omega), HG6.out⟩
  | true =>
    go_wp2_with fail
    refine (c_spoilt (bs x) ⟨#[48, 49, 50, 97]⟩ g l (m + 1000 + 2) _ HC2.out (by omega) hl (by rw [bs_size]; omega) (by decide) (by decide)).mono ?_
    rintro e w3 ⟨v, hv, rfl, hc3, hg3⟩
    have hxv : v.length ≤ 201 := by have h : v.length ≤ (bs x).size + 1 := hv; rw [bs_size] at h; omega
    have HC3 := Lib.hid hc3
    have HG3 := Lib.hid (only_trans HG2.out hg3)
    clear hc3 hg3
    go_wp2_with fail
    refine (c_one 24 g l (m + 1000 + 2 + 6) _ HC3.out (by omega) hl (by omega) (by omega)).mono ?_
    rintro e w5 ⟨b5, rfl, hc5, hg5⟩
    have HC5 := Lib.hid hc5
    have HG5 := Lib.hid (only_trans HG3.out hg5)
    clear hc5 hg5
    cases b5 with
    | false =>
      go_wp2
      go_ret
      exact ⟨v, by show _ ≤ 300; omega, rfl, HC5.out.mono (by omega), HG5.out⟩
    | true =>
      go_wp2
      go_loopw [5] (fun s wr => ∃ (q : Nat) (y : List UInt8), s = .string (bs y) ∧ q ≤ y.length ∧ y.length ≤ 300 ∧ Cur wr g l (m + 1100 + 2 * q) ∧ w.grownBy wr (some g)) (fun s _ => 65 - (strLen s))
      case atStart => exact ⟨0, v, rfl, by omega, by omega, HC5.out.mono (by omega), HG5.out⟩
      case round =>
        obtain ⟨q, y, rfl, hqy, hy3, hcr, hgr⟩ := hrel
        have HCR := Lib.hid hcr
        have HGR := Lib.hid hgr
        have hys := bs_size y
        have HYS := Lib.hid hys
        clear hcr hgr hys
        go_wp2_with fail
        refine (c_pick 2 g l (m + 1100 + 2 * q) _ HCR.out (by omega) hl (by omega) (by omega)).mono ?_
        rintro e w6 ⟨p, p0, p1, rfl, hc6, hg6⟩
        have HC6 := Lib.hid hc6
        have HG6 := Lib.hid (only_trans HGR.out hg6)
        clear hc6 hg6
        by_cases hlt : ((bs y).size : Int) < 64 + p
        · have hadd : ∀ W, (Op.stringOp .add (bs y) ⟨#[49]⟩).run Try.prog W = .ok (.string (bs (y ++ [49]))) W := fun W => run_add W y [49] (by simp; omega)
          have HN := Lib.hid (show (y ++ [49]).length = y.length + 1 by simp)
          have HLT := Lib.hid (show y.length < 65 by have := HYS.out; omega)
          go_wp2
          go_roundw
          case rel => exact ⟨q + 1, y ++ [49], rfl, by rw [HN.out]; omega, by rw [HN.out]; have := HLT.out; omega, HC6.out.mono (by omega), HG6.out⟩
          case measure =>
            have h1 := HLT.out
            have h2 := bs_size (y ++ [49])
            have h3 := HN.out
            have h4 := HYS.out
            show 65 - (bs (y ++ [49])).size < 65 - (bs y).size
            omega
        · go_wp2
          go_ret
          exact ⟨y, hy3, rfl, HC6.out.mono (by omega), HG6.out⟩

end Go.Proofs.Ytfbanjmooknafaa
