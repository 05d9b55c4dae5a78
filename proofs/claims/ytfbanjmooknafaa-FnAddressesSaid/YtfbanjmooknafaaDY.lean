/-
  Contracts of the draws of lists of frames.
-/
import Derived.Test.YtfbanjmooknafaaDI
import Derived.Test.YtfbanjmooknafaaDS
import Derived.Test.YtfbanjmooknafaaFO
import Derived.Test.YtfbanjmooknafaaE6
namespace Go.Proofs.Ytfbanjmooknafaa
open Go.RowKit
set_option linter.unusedSimpArgs false
set_option linter.unusedVariables false
set_option maxRecDepth 100000

theorem slice_ownN {w : World} {B : Nat} {T s : TypeId} {v : Value} {n : Nat} {xs : List Value} (h : w.ownsRow B T s v n xs) : ∃ A c, v = .slice A n c := by
  rcases h.2 with ⟨rfl, rfl⟩ | ⟨g, cap, _, rfl, _⟩
  · exact ⟨_, _, rfl⟩
  · exact ⟨_, _, rfl⟩
theorem row_keptN {w w' : World} {g B : Nat} {T s : TypeId} {v : Value} {n : Nat} {xs : List Value} (h : w.ownsRow B T s v n xs) (hB : g < B) (hg : w.grownBy w' (some g)) : w'.ownsRow B T s v n xs := h.kept hg (by
  cases hv : v.ownBlock with
  | none => exact .inl rfl
  | some k =>
    right
    have := (h.lt k hv).1
    intro e
    injection e with e
    omega)
theorem cur_appN {w w1 : World} {g B : Nat} {l : List UInt8} {m : Nat} {T s : TypeId} {v : Value} {n : Nat} {xs : List Value} {o : Obj} (hc : Cur w g l m) (hB : g < B) (hBs : B ≤ w.heap.size) (hown : w.ownsRow B T s v n xs) (hg : (w.alloc o).grownBy w1 v.ownBlock) : Cur w1 g l m :=
  hc.belowB (((Below.refl B w).alloc hBs o).grown hg (by simp; omega) (fun k hk => (hown.lt k hk).1)) hB
theorem grown_app {w wr w1 : World} {g : Nat} {T s : TypeId} {v : Value} {n : Nat} {xs : List Value} {o : Obj} (h : w.grownBy wr (some g)) (hown : wr.ownsRow w.heap.size T s v n xs) (hg : (wr.alloc o).grownBy w1 v.ownBlock) : w.grownBy w1 (some g) := by
  have h2 := grown_alloc h o
  refine ⟨hg.os.trans h2.os, hg.tape.trans h2.tape, hg.output.trans h2.output, Nat.le_trans h2.size hg.size, fun k hk hne => ?_⟩
  refine (hg.block k (Nat.lt_of_lt_of_le hk h2.size) (fun e => ?_)).trans (h2.block k hk hne)
  have := (hown.lt k e.symm).1
  omega
theorem three_new (w : World) (a b c : Value) (t : TypeId) : ∀ (j : Nat) (x : Value), [a, b, c][j]? = some x → (w.alloc (.cells #[a, b, c] t)).cell? ((⟨w.heap.size, 0, none⟩ : Addr).add j) = some x := fun j x hj => by
  have hadd : (⟨w.heap.size, 0, none⟩ : Addr).add j = ⟨w.heap.size, j, none⟩ := by unfold Addr.add; split <;> simp_all
  rw [hadd]
  match j with
  | 0 => simp at hj; subst hj; simp
  | 1 => simp at hj; subst hj; simp
  | 2 => simp at hj; subst hj; simp
  | j + 3 => simp at hj
/-- the call returns some frames, the cursor moves on, and nothing else turns -/
def DrewFs (g : Nat) (l : List UInt8) (m : Nat) (w : World) (e : Ending) (w' : World) : Prop := ∃ (A : Option Addr) (n c : Nat) (fs : List P.Fr), fs.length = n ∧ n ≤ 30 ∧ e = .returned (.slice A n c) ∧ w'.ownsRow w.heap.size 57 3 (.slice A n c) n (fcs fs) ∧ Cur w' g l m ∧ w.grownBy w' (some g)
set_option maxHeartbeats 2000000 in
theorem c_frames (g : Nat) (l : List UInt8) (m : Nat) (w : World) (hc : Cur w g l m) (hm : m ≤ 600000000) (hl : l.length ≤ 70000) : Calls Try.prog 181 #[.pointer (some ⟨g, 0, none⟩)] w (DrewFs g l (m + 500) w) := by
  obtain ⟨i0, hi, hz0, hz1, hz2⟩ := info_parts info_frame
  have hgl := hc.lt
  have HL := Lib.hid hl
  have hO0 : (w.alloc (.cells #[] 57)).ownsRow w.heap.size 57 3 (.slice (some ⟨w.heap.size, 0, none⟩) 0 0) 0 [] := World.ownsRow_made _ _ _ (Nat.le_refl _) (by unfold maxLen; omega) rfl
  have hC0 := hc.alloc (.cells #[] 57)
  have hG0 := grown_alloc (World.grownBy.refl w (some g)) (.cells #[] 57)
  obtain ⟨W0, hW0⟩ : ∃ W0, w.alloc (.cells #[] 57) = W0 := ⟨_, rfl⟩
  rw [hW0] at hO0 hC0 hG0
  have HO0 := Lib.hid hO0
  have HC0 := Lib.hid hC0
  have HG0 := Lib.hid hG0
  clear hO0 hC0 hG0 hc hl
  go_enter Try.func181, Try.ntmps181
  go_wp2_with fail
  clear hW0
  refine (c_pick 7 g l m _ HC0.out (by omega) HL.out (by omega) (by omega)).mono ?_
  rintro e w1 ⟨k, k0, k1, rfl, hc1, hg1⟩
  have HC1 := Lib.hid hc1
  have HG1 := Lib.hid (only_trans HG0.out hg1)
  have HO1 := Lib.hid (row_keptN HO0.out hgl hg1)
  obtain ⟨k, rfl⟩ : ∃ k' : Nat, k = (k' : Int) := ⟨k.toNat, by omega⟩
  clear hc1 hg1 HC0 HG0 HO0
  go_wp2
  go_loopw [3, 4] (fun v i wr => ∃ (j q : Nat) (ls : List P.Fr), i = .int .i64 j ∧ ls.length = q ∧ q + j = k ∧ wr.ownsRow w.heap.size 57 3 v q (fcs ls) ∧ Cur wr g l (m + 2 + 10 * q) ∧ w.grownBy wr (some g)) (fun _ i _ => (intOf i).toNat)
  case atStart => exact ⟨k, 0, [], rfl, rfl, by omega, HO1.out, HC1.out.mono (by omega), HG1.out⟩
  case round =>
    obtain ⟨j, q, ls, rfl, hq, hqj, hown, hcr, hgr⟩ := hrel
    have HN := Lib.hid hq
    have HCR := Lib.hid hcr
    have HGR := Lib.hid hgr
    have HOR := Lib.hid hown
    clear hq hcr hgr hown HC1 HG1 HO1
    by_cases hlt : 0 < j
    · go_wp2_with fail
      refine (c_frame g l _ _ HCR.out (by omega) HL.out).mono ?_
      rintro e w2 ⟨x, y, z, ⟨⟨x0, x1⟩, ⟨y0, y1⟩, z0, z1⟩, rfl, hc2, hg2⟩
      have HC2 := Lib.hid hc2
      have HG2 := Lib.hid (only_trans HGR.out hg2)
      have hown2 := row_keptN HOR.out hgl hg2
      clear hc2 hg2
      have hsz : w.heap.size ≤ (w2).heap.size := by first | exact HG2.out.size | exact HG3.out.size
      go_wp2_with (at_builtin; refine wpList_append_own _ rfl _ _ 61 rfl w.heap.size 57 i0 (.agg #[.int .i64 0, .int .i64 0, .int .i64 0]) 3 24 Try.underlying61 hi hz0 hz1 hz2 rfl (by decide) _ _ _ rfl (hown2.alloc _) ⟨(w2).heap.size, 0, none⟩ 1 1 [.int .i64 x, .int .i64 y, .int .i64 z] rfl rfl (three_new _ _ _ _ _) ?p2 ?p3 ?p4 ?p5 ?_)
      try (case p2 => first | (intro u hu; simp at hu; rcases hu with rfl | rfl | rfl <;> rfl) | (simp; done))
      try (case p3 => (unfold maxLen; omega))
      try (case p4 => omega)
      try (case p5 => (first | omega | (simp; omega)))
      intro v1 w5 hown5 hg5 _
      have HC5 := Lib.hid (cur_appN HC2.out hgl HG2.out.size hown2 hg5)
      have HG5 := Lib.hid (grown_app HG2.out hown2 hg5)
      have HO5 := Lib.hid (show w5.ownsRow w.heap.size 57 3 v1 (q + 1) (fcs (ls ++ [(x, y, z)])) by rw [fcs_app]; exact hown5)
      have HN5 := Lib.hid (show (ls ++ [(x, y, z)]).length = q + 1 by rw [List.length_append, HN.out]; rfl)
      clear hown5 hg5 hown2
      go_wp2
      go_roundw
      case rel => exact ⟨j - 1, q + 1, _, by go_num, HN5.out, by omega, HO5.out, HC5.out.mono (by omega), HG5.out⟩
      case measure => simp [intOf]; omega
    · have hq6 : q ≤ 6 := by omega
      go_wp2_with fail
      refine (c_pick 24 g l _ _ HCR.out (by omega) HL.out (by omega) (by omega)).mono ?_
      rintro e w2 ⟨p, p0, p1, rfl, hc2, hg2⟩
      have HC2 := Lib.hid hc2
      have HG2 := Lib.hid (only_trans HGR.out hg2)
      have HO2 := Lib.hid (row_keptN HOR.out hgl hg2)
      clear hc2 hg2 HCR HGR HOR
      by_cases e0 : p = 0
      · subst e0
        go_wp2_with fail
        refine (c_anyFrame g l _ _ HC2.out (by omega) HL.out).mono ?_
        rintro e w3 ⟨x, y, z, ⟨⟨x0, x1⟩, ⟨y0, y1⟩, z0, z1⟩, rfl, hc3, hg3⟩
        have HC3 := Lib.hid hc3
        have HG3 := Lib.hid (only_trans HG2.out hg3)
        have hown3 := row_keptN HO2.out hgl hg3
        clear hc3 hg3
        have hsz : w.heap.size ≤ (w3).heap.size := by first | exact HG2.out.size | exact HG3.out.size
        go_wp2_with (at_builtin; refine wpList_append_own _ rfl _ _ 61 rfl w.heap.size 57 i0 (.agg #[.int .i64 0, .int .i64 0, .int .i64 0]) 3 24 Try.underlying61 hi hz0 hz1 hz2 rfl (by decide) _ _ _ rfl (hown3.alloc _) ⟨(w3).heap.size, 0, none⟩ 1 1 [.int .i64 x, .int .i64 y, .int .i64 z] rfl rfl (three_new _ _ _ _ _) ?p2 ?p3 ?p4 ?p5 ?_)
        try (case p2 => first | (intro u hu; simp at hu; rcases hu with rfl | rfl | rfl <;> rfl) | (simp; done))
        try (case p3 => (unfold maxLen; omega))
        try (case p4 => omega)
        try (case p5 => (first | omega | (simp; omega)))
        intro v1 w5 hown5 hg5 _
        have HC5 := Lib.hid (cur_appN HC3.out hgl HG3.out.size hown3 hg5)
        have HG5 := Lib.hid (grown_app HG3.out hown3 hg5)
        have HO5 := Lib.hid (show w5.ownsRow w.heap.size 57 3 v1 (q + 1) (fcs (ls ++ [(x, y, z)])) by rw [fcs_app]; exact hown5)
        have HN5 := Lib.hid (show (ls ++ [(x, y, z)]).length = q + 1 by rw [List.length_append, HN.out]; rfl)
        clear hown5 hg5 hown3
        obtain ⟨A9, c9, hv9⟩ := slice_ownN HO5.out
        have HO9 := Lib.hid HO5.out
        subst hv9
        go_wp2
        go_ret
        exact ⟨A9, (q+1), c9, _, HN5.out, by omega, rfl, HO9.out, HC5.out.mono (by omega), HG5.out⟩
      · by_cases e1 : p = 1
        · subst e1
          go_wp2
          go_loopw [3, 5] (fun v i wr => ∃ (j r : Nat) (zs : List P.Fr), i = .int .i64 j ∧ zs.length = r ∧ j ≤ 22 ∧ r ≤ 21 ∧ wr.ownsRow w.heap.size 57 3 v r (fcs zs) ∧ Cur wr g l (m + 64 + 2 * j) ∧ w.grownBy wr (some g)) (fun _ i _ => 23 - (intOf i).toNat)
          case atStart => exact ⟨0, q, ls, rfl, HN.out, by omega, by omega, HO2.out, HC2.out.mono (by omega), HG2.out⟩
          case round =>
            clear HN HC2 HG2 HO2
            obtain ⟨j, r, zs, rfl, hr, hj, hr21, hown, hcr, hgr⟩ := hrel
            have HN := Lib.hid hr
            have HCR := Lib.hid hcr
            have HGR := Lib.hid hgr
            have HOR := Lib.hid hown
            obtain ⟨A8, c8, hv8⟩ := slice_ownN hown
            subst hv8
            clear hr hcr hgr hown
            go_wp2_with fail
            refine (c_pick 2 g l _ _ HCR.out (by omega) HL.out (by omega) (by omega)).mono ?_
            rintro e w3 ⟨d, d0, d1, rfl, hc3, hg3⟩
            have HC3 := Lib.hid hc3
            have HG3 := Lib.hid (only_trans HGR.out hg3)
            have hown3 := row_keptN HOR.out hgl hg3
            have HO3 := Lib.hid hown3
            clear hc3 hg3
            by_cases hlt : (r : Int) < 20 + d
            · by_cases hj22 : j < 22
              · skip
                have hsz : w.heap.size ≤ (w3).heap.size := by first | exact HG2.out.size | exact HG3.out.size
                go_wp2_with (at_builtin; refine wpList_append_own _ rfl _ _ 61 rfl w.heap.size 57 i0 (.agg #[.int .i64 0, .int .i64 0, .int .i64 0]) 3 24 Try.underlying61 hi hz0 hz1 hz2 rfl (by decide) _ _ _ rfl (hown3.alloc _) ⟨(w3).heap.size, 0, none⟩ 1 1 [.int .i64 1, .int .i64 7, .int .i64 0] rfl rfl (three_new _ _ _ _ _) ?p2 ?p3 ?p4 ?p5 ?_)
                try (case p2 => first | (intro u hu; simp at hu; rcases hu with rfl | rfl | rfl <;> rfl) | (simp; done))
                try (case p3 => (unfold maxLen; omega))
                try (case p4 => omega)
                try (case p5 => (first | omega | (simp; omega)))
                intro v1 w5 hown5 hg5 _
                have HC5 := Lib.hid (cur_appN HC3.out hgl HG3.out.size hown3 hg5)
                have HG5 := Lib.hid (grown_app HG3.out hown3 hg5)
                have HO5 := Lib.hid (show w5.ownsRow w.heap.size 57 3 v1 (r + 1) (fcs (zs ++ [(1, 7, 0)])) by rw [fcs_app]; exact hown5)
                have HN5 := Lib.hid (show (zs ++ [(1, 7, 0)]).length = r + 1 by rw [List.length_append, HN.out]; rfl)
                clear hown5 hg5 hown3
                go_wp2
                go_roundw
                case rel => exact ⟨j + 1, r + 1, _, by go_num, HN5.out, by omega, by omega, HO5.out, HC5.out.mono (by omega), HG5.out⟩
                case measure => simp [intOf]; omega
              · clear hown3
                go_wp2
                go_ret
                exact ⟨A8, r, c8, _, HN.out, by omega, rfl, HO3.out, HC3.out.mono (by omega), HG3.out⟩
            · clear hown3
              go_wp2
              go_ret
              exact ⟨A8, r, c8, _, HN.out, by omega, rfl, HO3.out, HC3.out.mono (by omega), HG3.out⟩
        · skip
          obtain ⟨A9, c9, hv9⟩ := slice_ownN HO2.out
          have HO9 := Lib.hid HO2.out
          subst hv9
          go_wp2
          go_ret
          exact ⟨A9, q, c9, _, HN.out, by omega, rfl, HO9.out, HC2.out.mono (by omega), HG2.out⟩
/-- what a draw of frames and an address returns -/
def GaveFsI (w : World) (e : Ending) (w' : World) : Prop := ∃ (A : Option Addr) (n c : Nat) (fs : List P.Fr) (a : Int), fs.length = n ∧ n ≤ 30 ∧ e = .returned (.tuple #[.slice A n c, .int .i64 a]) ∧ Holds w' A (fcs fs) ∧ Below w.heap.size w w'
def GaveFs (w : World) (e : Ending) (w' : World) : Prop := ∃ (A : Option Addr) (n c : Nat) (fs : List P.Fr), fs.length = n ∧ n ≤ 30 ∧ e = .returned (.slice A n c) ∧ Holds w' A (fcs fs) ∧ Below w.heap.size w w'
def GaveFF (w : World) (e : Ending) (w' : World) : Prop := ∃ a b c x y z : Int, NearFr a b c ∧ NearFr x y z ∧ e = .returned (.tuple #[fr a b c, fr x y z]) ∧ Below w.heap.size w w'
theorem c_DrawFramesOf (A : Option Addr) (n c : Nat) (l : List UInt8) (w : World) (hl : l.length = n) (hn : n ≤ 65536) (h : Holds w A (ub l)) : Calls Try.prog 79 #[.slice A n c] w (GaveFsI w) := by
  have hcn := cur_new (w := w) (A := A) c 102 h
  rw [hl] at hcn
  obtain ⟨W0, hW0⟩ : ∃ W0, w.alloc (.cells #[.slice A n c, .int .i64 0, .int .u64 0] 102) = W0 := ⟨_, rfl⟩
  rw [hW0] at hcn
  have HC := Lib.hid hcn
  have HL := Lib.hid (show l.length ≤ 70000 by omega)
  clear h hl hcn
  obtain ⟨g, hg⟩ : ∃ g, w.heap.size = g := ⟨_, rfl⟩
  have HGZ := Lib.hid hg
  rw [hg] at HC
  go_enter Try.func79, Try.ntmps79
  go_wp2_with fail
  have HWZ := Lib.hid hW0
  clear hW0 hg
  try rw [HGZ.out]
  have hgl := HC.out.lt
  refine (c_frames g l 0 _ HC.out (by omega) HL.out).mono ?_
  rintro e w1 ⟨A1, n1, c1, fs, hfs, hn1, rfl, hown1, hc1, hg1⟩
  have HC1 := Lib.hid hc1
  have HG1 := Lib.hid hg1
  have HO1 := Lib.hid hown1
  have HFS := Lib.hid hfs
  clear hc1 hg1 hown1 hfs
  go_wp2_with fail
  have HA := Lib.hid (holds_new w1 (vi [1,2,255,65535,9,0,65536,4660]) 3)
  have HCA := Lib.hid (HC1.out.alloc (.cells (vi [1,2,255,65535,9,0,65536,4660]).toArray 3))
  have HGA := Lib.hid (grown_alloc HG1.out (.cells (vi [1,2,255,65535,9,0,65536,4660]).toArray 3))
  have HNE := Lib.hid (lit_ne HC1.out)
  refine (c_among _ 8 8 [1,2,255,65535,9,0,65536,4660] 0 65536 g l (0 + 500) _ rfl (by exact HA.out) (by decide) HNE.out (by exact HCA.out) (by omega) HL.out (by omega) (by omega)).mono ?_
  rintro e w2 ⟨v, v0, v1, rfl, hc2, hg2⟩
  have HO2 := Lib.hid (row_keptN (HO1.out.alloc _) hgl hg2)
  have HB := Lib.hid (cur_below HWZ.out (by rw [HGZ.out]; exact only_trans HGA.out hg2))
  clear hc2 hg2 HA HCA HGA HNE
  go_wp2
  go_ret2
  exact ⟨A1, n1, c1, fs, v, HFS.out, hn1, rfl, holds_ownN HO2.out, HB.out⟩
theorem c_DrawAddressesOf (A : Option Addr) (n c : Nat) (l : List UInt8) (w : World) (hl : l.length = n) (hn : n ≤ 65536) (h : Holds w A (ub l)) : Calls Try.prog 83 #[.slice A n c] w (GaveFs w) := by
  have hcn := cur_new (w := w) (A := A) c 102 h
  rw [hl] at hcn
  obtain ⟨W0, hW0⟩ : ∃ W0, w.alloc (.cells #[.slice A n c, .int .i64 0, .int .u64 0] 102) = W0 := ⟨_, rfl⟩
  rw [hW0] at hcn
  have HC := Lib.hid hcn
  have HL := Lib.hid (show l.length ≤ 70000 by omega)
  clear h hl hcn
  obtain ⟨g, hg⟩ : ∃ g, w.heap.size = g := ⟨_, rfl⟩
  have HGZ := Lib.hid hg
  rw [hg] at HC
  go_enter Try.func83, Try.ntmps83
  go_wp2_with fail
  have HWZ := Lib.hid hW0
  clear hW0 hg
  try rw [HGZ.out]
  refine (c_frames g l 0 _ HC.out (by omega) HL.out).mono ?_
  rintro e w1 ⟨A1, n1, c1, fs, hfs, hn1, rfl, hown1, hc1, hg1⟩
  have HO1 := Lib.hid hown1
  have HFS := Lib.hid hfs
  have HB := Lib.hid (cur_below HWZ.out (by rw [HGZ.out]; exact hg1))
  clear hc1 hg1 hown1 hfs
  go_wp2
  go_ret
  exact ⟨A1, n1, c1, fs, HFS.out, hn1, rfl, holds_ownN HO1.out, HB.out⟩
theorem c_DrawFrameDistance (A : Option Addr) (n c : Nat) (l : List UInt8) (w : World) (hl : l.length = n) (hn : n ≤ 65536) (h : Holds w A (ub l)) : Calls Try.prog 76 #[.slice A n c] w (GaveFF w) := by
  obtain ⟨hX, hY, hB⟩ := two_boxes w 0 0 0 0 0 0 57
  obtain ⟨W1, hW1⟩ : ∃ W1, (w.alloc (.cells #[.int .i64 0, .int .i64 0, .int .i64 0] 57)).alloc (.cells #[.int .i64 0, .int .i64 0, .int .i64 0] 57) = W1 := ⟨_, rfl⟩
  have hs1 : W1.heap.size = w.heap.size + 2 := by rw [← hW1]; simp
  rw [hW1] at hB hX hY
  have hcn := cur_new (w := W1) (A := A) c 102 (holds_belowU h hB)
  rw [hl] at hcn
  have hX0 := hX.below ((Below.refl W1.heap.size W1).alloc (Nat.le_refl _) (.cells #[.slice A n c, .int .i64 0, .int .u64 0] 102))
  have hY0 := hY.below ((Below.refl W1.heap.size W1).alloc (Nat.le_refl _) (.cells #[.slice A n c, .int .i64 0, .int .u64 0] 102))
  have hB0 := hB.alloc (by omega) (.cells #[.slice A n c, .int .i64 0, .int .u64 0] 102)
  obtain ⟨W0, hW0⟩ : ∃ W0, W1.alloc (.cells #[.slice A n c, .int .i64 0, .int .u64 0] 102) = W0 := ⟨_, rfl⟩
  rw [hW0] at hcn hX0 hY0 hB0
  have HC := Lib.hid hcn
  have HX := Lib.hid hX0
  have HY := Lib.hid hY0
  have HB := Lib.hid hB0
  have HL := Lib.hid (show l.length ≤ 70000 by omega)
  clear h hl hcn hB hX hY hX0 hY0 hB0
  go_enter Try.func76, Try.ntmps76
  go_wp2_with fail
  clear hW0 hW1
  try rw [hs1]
  rw [hs1] at HC
  refine (c_anyFrame _ l 0 _ HC.out (by omega) HL.out).mono ?_
  rintro e w1 ⟨x, y, z, hn1, rfl, hc1, hg1⟩
  have HC1 := Lib.hid hc1
  have HX1 := Lib.hid (HX.out.grown (by omega) hg1)
  have HY1 := Lib.hid (HY.out.grown (by omega) hg1)
  have HB1 := Lib.hid (HB.out.grown hg1 HB.out.size (fun k hk => by injection hk with hk; omega))
  have HN1 := Lib.hid hn1
  clear hc1 hg1 hn1
  go_wp2_with fail
  refine (c_anyFrame _ l _ _ HC1.out (by omega) HL.out).mono ?_
  rintro e w2 ⟨x2, y2, z2, hn2, rfl, hc2, hg2⟩
  have HX2 := Lib.hid (HX1.out.grown (by omega) hg2)
  have HY2 := Lib.hid (HY1.out.grown (by omega) hg2)
  have HB2 := Lib.hid (HB1.out.grown hg2 HB1.out.size (fun k hk => by injection hk with hk; omega))
  have HN2 := Lib.hid hn2
  obtain ⟨⟨k0, k1, k2⟩, f0, f1, f2⟩ := HX2.out
  obtain ⟨⟨j0, j1, j2⟩, d0, d1, d2⟩ := HY2.out
  clear hc2 hg2 hn2
  go_wp2
  exact bodyPost_ret (v := .tuple #[.agg #[.int .i64 x, .int .i64 y, .int .i64 z], .agg #[.int .i64 x2, .int .i64 y2, .int .i64 z2]]) (by simp [results, Try.results76, go_sem, k0, k1, k2, j0, j1, j2]) rfl ⟨x, y, z, x2, y2, z2, HN1.out, HN2.out, rfl, (((((HB2.out.setCell (Nat.le_refl _) _).setCell (Nat.le_refl _) _).setCell (Nat.le_refl _) _).setCell (Nat.le_succ _) _).setCell (Nat.le_succ _) _).setCell (Nat.le_succ _) _⟩
end Go.Proofs.Ytfbanjmooknafaa
