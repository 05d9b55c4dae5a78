/-
  Contracts of the draws for the laws on texts and on lists of texts.
-/
import Derived.Test.YtfbanjmooknafaaLB
import Derived.Test.YtfbanjmooknafaaB2
import Derived.Test.YtfbanjmooknafaaJ
namespace Go.Proofs.Ytfbanjmooknafaa
open Go.RowKit
set_option linter.unusedSimpArgs false
set_option linter.unusedVariables false
set_option maxRecDepth 100000

theorem row_kept {w w' : World} {g B : Nat} {T : TypeId} {v : Value} {n : Nat} {xs : List Value} (h : w.ownsRow B T 1 v n xs) (hB : g < B) (hg : w.grownBy w' (some g)) : w'.ownsRow B T 1 v n xs := h.kept hg (by
  cases hv : v.ownBlock with
  | none => exact .inl rfl
  | some k =>
    right
    have := (h.lt k hv).1
    intro e
    injection e with e
    omega)
theorem row_none {w w' : World} {B : Nat} {T : TypeId} {v : Value} {n : Nat} {xs : List Value} (h : w.ownsRow B T 1 v n xs) (hg : w.grownBy w' none) : w'.ownsRow B T 1 v n xs := h.kept hg (by
  cases hv : v.ownBlock with
  | none => exact .inl rfl
  | some k => exact .inr (fun e => by cases e))
theorem cur_app {w w1 : World} {g B : Nat} {l : List UInt8} {m : Nat} {T : TypeId} {v : Value} {n : Nat} {xs : List Value} {o : Obj} (hc : Cur w g l m) (hB : g < B) (hBs : B ≤ w.heap.size) (hown : w.ownsRow B T 1 v n xs) (hg : (w.alloc o).grownBy w1 v.ownBlock) : Cur w1 g l m :=
  hc.belowB (below_app (Below.refl B w) hBs hown hg) hB
theorem below_app' {w0 w w1 : World} {g : Nat} {l : List UInt8} {m : Nat} {T : TypeId} {v : Value} {n : Nat} {xs : List Value} {o : Obj} (hb : Below g w0 w) (hc : Cur w g l m) (hown : w.ownsRow (g + 1) T 1 v n xs) (hg : (w.alloc o).grownBy w1 v.ownBlock) : Below g w0 w1 :=
  below_app hb (by have := hc.lt; omega) (Joins.ownsRow_le hown (by omega)) hg
theorem below_cur {w0 w w1 : World} {g : Nat} (hb : Below g w0 w) (hs : g ≤ w.heap.size) (hg : w.grownBy w1 (some g)) : Below g w0 w1 := hb.grown hg hs (fun k hk => by injection hk with hk; omega)
theorem slice_own {w : World} {B : Nat} {T : TypeId} {v : Value} {n : Nat} {xs : List Value} (h : w.ownsRow B T 1 v n xs) : ∃ A c, v = .slice A n c ∧ Holds w A xs := by
  have h2 := h
  rcases Joins.ownsRow_forms h with ⟨rfl, rfl⟩ | ⟨k, c, rfl⟩
  · exact ⟨_, _, rfl, holds_own h2⟩
  · exact ⟨_, _, rfl, holds_own h2⟩
theorem c_any1 (g : Nat) (l : List UInt8) (m : Nat) (w : World) (hc : Cur w g l m) (hm : m ≤ 800000000) (hl : l.length ≤ 70000) : Calls Try.prog 151 #[.pointer (some ⟨g, 0, none⟩)] w (DrewStr (AtMost 10) g l (m + 2) w) := by
  have HC := Lib.hid hc
  have HL := Lib.hid hl
  have HG := Lib.hid (World.grownBy.refl w (some g))
  clear hc
  go_enter Try.func151, Try.ntmps151
  go_wp2_with fail
  have HA := Lib.hid (holds_new w (([[], [97], [97,44,98], [115,111,109,101,32,119,111,114,100,115], [120,35,121], [45,49,50], [0,255], [44,44], [48]] : List (List UInt8)).map vs) 9)
  have HCA := Lib.hid (HC.out.alloc (.cells (([[], [97], [97,44,98], [115,111,109,101,32,119,111,114,100,115], [120,35,121], [45,49,50], [0,255], [44,44], [48]] : List (List UInt8)).map vs).toArray 9))
  have HGA := Lib.hid (grown_alloc HG.out (.cells (([[], [97], [97,44,98], [115,111,109,101,32,119,111,114,100,115], [120,35,121], [45,49,50], [0,255], [44,44], [48]] : List (List UInt8)).map vs).toArray 9))
  have HNE := Lib.hid (lit_ne HC.out)
  refine (c_of _ 9 9 [[], [97], [97,44,98], [115,111,109,101,32,119,111,114,100,115], [120,35,121], [45,49,50], [0,255], [44,44], [48]] g l m _ rfl (by exact HA.out) HNE.out (by exact HCA.out) (by omega) HL.out (by omega) (by omega)).mono ?_
  rintro e w1 ⟨x, hx, rfl, hc1, hg1⟩
  have hx10 : x.length ≤ 10 := by
    have : ∀ y ∈ ([[], [97], [97,44,98], [115,111,109,101,32,119,111,114,100,115], [120,35,121], [45,49,50], [0,255], [44,44], [48]] : List (List UInt8)), y.length ≤ 10 := by decide
    exact this x hx
  have HC1 := Lib.hid hc1
  have HG1 := Lib.hid (only_trans HGA.out hg1)
  clear hc1 hg1 HA HCA HGA HNE hx
  go_wp2
  go_ret
  exact ⟨x, hx10, rfl, HC1.out, HG1.out⟩
theorem c_DrawSplitString (A : Option Addr) (n c : Nat) (l : List UInt8) (w : World) (hl : l.length = n) (hn : n ≤ 65536) (h : Holds w A (ub l)) : Calls Try.prog 31 #[.slice A n c] w (GaveSS 10 w) := by
  have hcn := cur_new (w := w) (A := A) c 102 h
  rw [hl] at hcn
  obtain ⟨W0, hW0⟩ : ∃ W0, w.alloc (.cells #[.slice A n c, .int .i64 0, .int .u64 0] 102) = W0 := ⟨_, rfl⟩
  rw [hW0] at hcn
  have HC := Lib.hid hcn
  have HL := Lib.hid (show l.length ≤ 70000 by omega)
  clear h hl hcn
  obtain ⟨g, hg⟩ : ∃ g, w.heap.size = g := ⟨_, rfl⟩
  have HGZ := Lib.hid hg
  rw [hg] at HC
  go_enter Try.func31, Try.ntmps31
  go_wp2_with fail
  have HWZ := Lib.hid hW0
  clear hW0 hg
  try rw [HGZ.out]
  refine (c_any1 g l 0 _ HC.out (by omega) HL.out).mono ?_
  rintro e w1 ⟨x, hx, rfl, hc1, hg1⟩
  have hx3 : x.length ≤ 10 := hx
  have HC1 := Lib.hid hc1
  have HG1 := Lib.hid hg1
  clear hc1 hg1 hx
  go_wp2_with fail
  have HA := Lib.hid (holds_new w1 (([[44], [44], [32], [], [44,44]] : List (List UInt8)).map vs) 9)
  have HCA := Lib.hid (HC1.out.alloc (.cells (([[44], [44], [32], [], [44,44]] : List (List UInt8)).map vs).toArray 9))
  have HGA := Lib.hid (grown_alloc HG1.out (.cells (([[44], [44], [32], [], [44,44]] : List (List UInt8)).map vs).toArray 9))
  have HNE := Lib.hid (lit_ne HC1.out)
  refine (c_of _ 5 5 [[44], [44], [32], [], [44,44]] g l (0 + 2) _ rfl (by exact HA.out) HNE.out (by exact HCA.out) (by omega) HL.out (by omega) (by omega)).mono ?_
  rintro e w2 ⟨y, hy, rfl, hc2, hg2⟩
  have hy10 : y.length ≤ 10 := by
    have : ∀ y ∈ ([[44], [44], [32], [], [44,44]] : List (List UInt8)), y.length ≤ 10 := by decide
    exact this y hy
  have HB := Lib.hid (cur_below HWZ.out (by rw [HGZ.out]; exact only_trans HGA.out hg2))
  clear hc2 hg2 HA HCA HGA HNE hy
  go_wp2
  go_ret2
  exact ⟨x, y, hx3, hy10, rfl, HB.out⟩
theorem c_DrawLessString (A : Option Addr) (n c : Nat) (l : List UInt8) (w : World) (hl : l.length = n) (hn : n ≤ 65536) (h : Holds w A (ub l)) : Calls Try.prog 36 #[.slice A n c] w (GaveSS 10 w) := by
  have hcn := cur_new (w := w) (A := A) c 102 h
  rw [hl] at hcn
  obtain ⟨W0, hW0⟩ : ∃ W0, w.alloc (.cells #[.slice A n c, .int .i64 0, .int .u64 0] 102) = W0 := ⟨_, rfl⟩
  rw [hW0] at hcn
  have HC := Lib.hid hcn
  have HL := Lib.hid (show l.length ≤ 70000 by omega)
  clear h hl hcn
  obtain ⟨g, hg⟩ : ∃ g, w.heap.size = g := ⟨_, rfl⟩
  have HGZ := Lib.hid hg
  rw [hg] at HC
  go_enter Try.func36, Try.ntmps36
  go_wp2_with fail
  have HWZ := Lib.hid hW0
  clear hW0 hg
  try rw [HGZ.out]
  refine (c_any1 g l 0 _ HC.out (by omega) HL.out).mono ?_
  rintro e w1 ⟨x, hx, rfl, hc1, hg1⟩
  have hx3 : x.length ≤ 10 := hx
  have HC1 := Lib.hid hc1
  have HG1 := Lib.hid hg1
  clear hc1 hg1 hx
  go_wp2_with fail
  refine (c_any1 g l _ _ HC1.out (by omega) HL.out).mono ?_
  rintro e w2 ⟨y, hy, rfl, hc2, hg2⟩
  have hy3 : y.length ≤ 10 := hy
  have HB := Lib.hid (cur_below HWZ.out (by rw [HGZ.out]; exact only_trans HG1.out hg2))
  clear hc2 hg2 hy
  go_wp2
  go_ret2
  exact ⟨x, y, hx3, hy3, rfl, HB.out⟩
/-- what a draw of some texts and a text returns -/
def GaveLS (w : World) (e : Ending) (w' : World) : Prop := ∃ (A : Option Addr) (c : Nat) (k : List (List UInt8)) (y : List UInt8), k.length ≤ 4 ∧ P.sumL k ≤ 5000 ∧ y.length ≤ 10 ∧ e = .returned (.tuple #[.slice A k.length c, .string (bs y)]) ∧ Holds w' A (k.map vs) ∧ Below w.heap.size w w'
set_option maxHeartbeats 1000000 in
theorem c_DrawJoinStrings (A : Option Addr) (n c : Nat) (l : List UInt8) (w : World) (hl : l.length = n) (hn : n ≤ 65536) (h : Holds w A (ub l)) : Calls Try.prog 33 #[.slice A n c] w (GaveLS w) := by
  obtain ⟨i0, hi, hz0, hz1, hz2⟩ := info_parts info_string
  obtain ⟨u0, ui, uz0, uz1, uz2⟩ := info_parts info_u8
  have hcn := cur_new (w := w) (A := A) c 102 h
  rw [hl] at hcn
  obtain ⟨W0, hW0⟩ : ∃ W0, w.alloc (.cells #[.slice A n c, .int .i64 0, .int .u64 0] 102) = W0 := ⟨_, rfl⟩
  rw [hW0] at hcn
  have HC := Lib.hid hcn
  have HL := Lib.hid (show l.length ≤ 70000 by omega)
  clear h hl hcn
  obtain ⟨g, hg⟩ : ∃ g, w.heap.size = g := ⟨_, rfl⟩
  have HGZ := Lib.hid hg
  rw [hg] at HC
  go_enter Try.func33, Try.ntmps33
  go_wp2_with fail
  have HWZ := Lib.hid hW0
  clear hW0 hg
  try rw [HGZ.out]
  have hgl := HC.out.lt
  have hown0 : (W0.alloc (.cells #[] 9)).ownsRow (g + 1) 9 1 (.slice (some ⟨W0.heap.size, 0, none⟩) 0 0) 0 [] := World.ownsRow_made _ _ _ (by omega) (by unfold maxLen; omega) rfl
  refine (c_pick 4 g l _ _ (HC.out.alloc _) (by omega) HL.out (by omega) (by omega)).mono ?_
  rintro e w1 ⟨k, k0, k1, rfl, hc1, hg1⟩
  have HC1 := Lib.hid hc1
  have HO1 := Lib.hid (row_kept hown0 (Nat.lt_succ_self g) hg1)
  have hb1 := cur_below HWZ.out (by rw [HGZ.out]; exact only_trans (grown_alloc (World.grownBy.refl W0 (some g)) _) hg1)
  rw [HGZ.out] at hb1
  have HB1 := Lib.hid hb1
  obtain ⟨k, rfl⟩ : ∃ k' : Nat, k = (k' : Int) := ⟨k.toNat, by omega⟩
  clear hc1 hb1 HC
  go_wp2
  go_loopw [5, 7] (fun v i wr => ∃ (j : Nat) (ls : List (List UInt8)), i = .int .i64 j ∧ j ≤ k ∧ ls.length = j ∧ P.sumL ls ≤ 10 * j ∧ wr.ownsRow (g + 1) 9 1 v (ls.map vs).length (ls.map vs) ∧ Cur wr g l (2 + 2 * j) ∧ Below g w wr) (fun _ i _ => k - (intOf i).toNat)
  case atStart => exact ⟨0, [], rfl, by omega, rfl, by decide, HO1.out, HC1.out.mono (by omega), HB1.out⟩
  case round =>
    obtain ⟨j, ls, rfl, hj, hls, hsum, hown, hcr, hbr⟩ := hrel
    have hgr := hcr.lt
    subst hls
    clear HC1 HB1 HO1 hg1 hown0
    by_cases hlt : ls.length < k
    · go_wp2_with fail
      refine (c_any1 g l _ _ hcr (by omega) HL.out).mono ?_
      rintro e w4 ⟨x, hx, rfl, hc4, hg4⟩
      have hx3 : x.length ≤ 10 := hx
      have hg4l := hc4.lt
      have hown4 := row_kept hown (Nat.lt_succ_self g) hg4
      have hb4 := below_cur hbr (by omega) hg4
      clear hown hcr hbr hg4 hx
      go_wp2_with (at_builtin; refine wpList_append_own _ rfl _ _ 40 rfl (g + 1) 9 i0 (.string ByteArray.empty) 1 16 Try.underlying40 hi hz0 hz1 hz2 rfl (by decide) _ _ _ rfl (hown4.alloc _) ⟨(w4).heap.size, 0, none⟩ 1 1 [.string (bs x)] rfl rfl (one_new _ _ _) ?a2 ?a3 ?a4 ?a5 ?_)
      case a2 => intro u hu; simp at hu; subst hu; rfl
      case a3 => unfold maxLen; rw [List.length_map]; omega
      case a4 => rw [List.length_map]; omega
      case a5 => simp; omega
      intro v1 w5 hown5 hg5 _
      have HC5 := Lib.hid (cur_app hc4 (Nat.lt_succ_self g) (by have := hc4.lt; omega) hown4 hg5)
      have HB5 := Lib.hid (below_app' hb4 hc4 hown4 hg5)
      have HO5 := Lib.hid (show w5.ownsRow (g + 1) 9 1 v1 ((ls ++ [x]).map vs).length ((ls ++ [x]).map vs) by
        rw [List.map_append, List.map_cons, List.map_nil, List.length_append, List.length_map]; exact hown5)
      have HN := Lib.hid (show (ls ++ [x]).length = ls.length + 1 ∧ P.sumL (ls ++ [x]) ≤ 10 * (ls.length + 1) by
        refine ⟨by simp, ?_⟩
        rw [P.sumL_snoc]; omega)
      clear hown5 hg5 hown4 hb4 hc4
      go_wp2
      go_roundw
      case rel => exact ⟨ls.length + 1, ls ++ [x], by go_num, by omega, HN.out.1, HN.out.2, HO5.out, HC5.out.mono (by omega), HB5.out⟩
      case measure => simp [intOf]; omega
    · go_wp2_with fail
      refine (c_one 20 g l _ _ hcr (by omega) HL.out (by omega) (by omega)).mono ?_
      rintro e w4 ⟨b4, rfl, hc4, hg4⟩
      have hown4 := row_kept hown (Nat.lt_succ_self g) hg4
      have hb4 := below_cur hbr (by omega) hg4
      clear hown hcr hbr hg4
      cases b4 with
      | false =>
        go_wp2_with fail
        refine (c_of _ 5 5 [[44], [59], [59], [], [97, 98]] g l _ _ rfl (by exact (Lib.hid (holds_new w4 ([[44], [59], [59], [], [97, 98]].map vs) 9)).out) (lit_ne hc4) (hc4.alloc _) (by omega) HL.out (by omega) (by omega)).mono ?_
        rintro e w8 ⟨y, hy, rfl, hc8, hg8⟩
        have hy10 : y.length ≤ 10 := by
          have : ∀ y ∈ ([[44], [59], [59], [], [97, 98]] : List (List UInt8)), y.length ≤ 10 := by decide
          exact this y hy
        have hown8 := row_kept (hown4.alloc (.cells (([[44], [59], [59], [], [97, 98]] : List (List UInt8)).map vs).toArray 9)) (Nat.lt_succ_self g) hg8
        have hb8 := below_cur (hb4.alloc (by have := hc4.lt; omega) (.cells (([[44], [59], [59], [], [97, 98]] : List (List UInt8)).map vs).toArray 9)) (by have := hc4.lt; simp; omega) hg8
        obtain ⟨A8, c8, rfl, hh8⟩ := slice_own hown8
        have HH8 := Lib.hid hh8
        have HB8 := Lib.hid hb8
        rw [List.length_map]
        clear hown8 hh8 hb8 hc8 hg8 hy
        go_wp2
        go_ret2
        exact ⟨A8, c8, ls, y, by omega, by omega, hy10, rfl, HH8.out, by rw [HGZ.out]; exact HB8.out⟩
      | true =>
        go_wp2_with fail
        refine (c_pick 20 g l _ _ hc4 (by omega) HL.out (by omega) (by omega)).mono ?_
        rintro e w5 ⟨p, p0, p1, rfl, hc5, hg5⟩
        have hown5 := row_kept hown4 (Nat.lt_succ_self g) hg5
        have hb5 := below_cur hb4 (by have := hc4.lt; omega) hg5
        obtain ⟨p, rfl⟩ : ∃ p' : Nat, p = (p' : Int) := ⟨p.toNat, by omega⟩
        clear hown4 hb4 hc4 hg5
        have hg5l := hc5.lt
        go_wp2_with (at_make; refine wpList_make_full _ rfl _ _ 22 rfl w5.heap.size 5 u0 (.int .u8 0) 1 Try.underlying22 ui uz0 uz1 _ _ _ _ (3990 + p) rfl rfl rfl rfl (by rw [uz2]; omega) (by unfold maxLen; omega) (Nat.le_refl _) ?_)
        intro w6 hz6 hg6
        have hown6 := row_none hown5 hg6
        have hB6 : Below w5.heap.size w5 w6 := (Below.refl _ _).grown hg6 (Nat.le_refl _) (fun k hk => by cases hk)
        have hc6 := hc5.below hB6
        have hb6 := hb5.trans (hB6.mono (by omega))
        have hz6' : w6.ownsRow w5.heap.size 5 1 (.slice (some ⟨w5.heap.size, 0, none⟩) (3990 + p) (3990 + p)) (3990 + p) (ub (List.replicate (3990 + p) 0)) := by
          have h := hz6
          rw [toList_madeCells_one] at h
          simpa [ub] using h
        have hcv := run_str_row (P := Try.prog) 22 9 5 Try.underlying22 Try.underlying5 Try.underlying9 hz6'
        have hg6l := hc6.lt
        clear hz6 hz6' hg6 hB6 hc5 hb5 hown5
        obtain ⟨z, hz⟩ : ∃ z, List.replicate (3990 + p) (0 : UInt8) = z := ⟨_, rfl⟩
        have hzl : z.length ≤ 4010 := by rw [← hz, List.length_replicate]; omega
        rw [hz] at hcv
        go_wp2_with (at_builtin; refine wpList_append_own _ rfl _ _ 40 rfl (g + 1) 9 i0 (.string ByteArray.empty) 1 16 Try.underlying40 hi hz0 hz1 hz2 rfl (by decide) _ _ _ rfl (hown6.alloc _) ⟨(w6).heap.size, 0, none⟩ 1 1 [.string (bs z)] rfl rfl (one_new _ _ _) ?f2 ?f3 ?f4 ?f5 ?_)
        case f2 => intro u hu; simp at hu; subst hu; rfl
        case f3 => unfold maxLen; rw [List.length_map]; omega
        case f4 => rw [List.length_map]; omega
        case f5 => simp; omega
        intro v1 w7 hown7 hg7 _
        have hc7 := cur_app hc6 (Nat.lt_succ_self g) (by omega) hown6 hg7
        have hb7 := below_app' hb6 hc6 hown6 hg7
        have hown7' : w7.ownsRow (g + 1) 9 1 v1 ((ls ++ [z]).map vs).length ((ls ++ [z]).map vs) := by
          rw [List.map_append, List.map_cons, List.map_nil, List.length_append, List.length_map]; exact hown7
        have hn1 : (ls ++ [z]).length ≤ 4 := by rw [List.length_append, List.length_cons, List.length_nil]; omega
        have hn2 : P.sumL (ls ++ [z]) ≤ 5000 := by rw [P.sumL_snoc]; omega
        obtain ⟨lz, hlz⟩ : ∃ lz, ls ++ [z] = lz := ⟨_, rfl⟩
        rw [hlz] at hown7' hn1 hn2
        clear hown7 hg7 hown6 hb6 hc6 hcv hz hlz
        go_wp2_with fail
        refine (c_of _ 5 5 [[44], [59], [59], [], [97, 98]] g l _ _ rfl (by exact (Lib.hid (holds_new w7 ([[44], [59], [59], [], [97, 98]].map vs) 9)).out) (lit_ne hc7) (hc7.alloc _) (by omega) HL.out (by omega) (by omega)).mono ?_
        rintro e w8 ⟨y, hy, rfl, hc8, hg8⟩
        have hy10 : y.length ≤ 10 := by
          have : ∀ y ∈ ([[44], [59], [59], [], [97, 98]] : List (List UInt8)), y.length ≤ 10 := by decide
          exact this y hy
        have hown8 := row_kept (hown7'.alloc (.cells (([[44], [59], [59], [], [97, 98]] : List (List UInt8)).map vs).toArray 9)) (Nat.lt_succ_self g) hg8
        have hb8 := below_cur (hb7.alloc (by have := hc7.lt; omega) (.cells (([[44], [59], [59], [], [97, 98]] : List (List UInt8)).map vs).toArray 9)) (by have := hc7.lt; simp; omega) hg8
        obtain ⟨A8, c8, rfl, hh8⟩ := slice_own hown8
        have HH8 := Lib.hid hh8
        have HB8 := Lib.hid hb8
        rw [List.length_map]
        clear hown8 hh8 hb8 hc8 hg8 hy
        go_wp2
        go_ret2
        exact ⟨A8, c8, lz, y, by omega, by omega, hy10, rfl, HH8.out, by rw [HGZ.out]; exact HB8.out⟩
end Go.Proofs.Ytfbanjmooknafaa
