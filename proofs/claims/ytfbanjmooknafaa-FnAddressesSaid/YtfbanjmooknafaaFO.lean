/-
  Contracts of the laws' helpers on slices of frames and of integers.
-/
import Derived.Test.YtfbanjmooknafaaFN
namespace Go.Proofs.Ytfbanjmooknafaa
open Go.RowKit
set_option linter.unusedSimpArgs false
set_option linter.unusedVariables false
set_option maxRecDepth 100000

theorem info_frame : (Try.prog.info? 57).map (fun i => (i.zero, i.size, i.bytes)) = some (some (.agg #[.int .i64 0, .int .i64 0, .int .i64 0]), 3, 24) := by kernel_rfl
theorem own_belowN {w w' : World} {base e size n : Nat} {v : Value} {xs : List Value} (h : w.ownsRow base e size v n xs) (hb : Below w.heap.size w w') : w'.ownsRow base e size v n xs :=
  h.kept (row := Option.none) ⟨hb.os, hb.tape, hb.output, hb.size, fun i hi _ => hb.block i hi⟩ (by cases hv : v.ownBlock <;> simp)
theorem holds_ownN {w : World} {base T size n c : Nat} {A : Option Addr} {xs : List Value} (h : w.ownsRow base T size (.slice A n c) n xs) : Holds w A xs := by
  intro hne
  rcases h.2 with ⟨_, h0⟩ | ⟨g, cap, cur, hv, hg, hh, _⟩
  · have := h.1
    rw [h0] at this
    exact absurd (List.eq_nil_of_length_eq_zero (by simpa using this)) hne
  · injection hv with hA _ hc
    subst hA hc
    refine ⟨g, 0, rfl, fun j u hj => ?_⟩
    have hj' : j < n * size := by rw [← h.1]; exact (List.getElem?_eq_some_iff.1 hj).1
    rw [Nat.zero_add, h.cellAt j hj', hj]
/-- the cells of a copy of frames after k steps -/
def copied3 (fs : List P.Fr) (n k : Nat) : List Value := fcs (fs.take k) ++ List.replicate ((n - k) * 3) (.int .i64 0)
theorem set3 {A R : List Value} {m : Nat} {x y z a b c : Value} (h : A.length = m) : (((A ++ x :: y :: z :: R).set m a).set (m + 1) b).set (m + 2) c = A ++ a :: b :: c :: R := by
  subst h
  rw [List.set_append_right _ _ (Nat.le_refl _), Nat.sub_self, List.set_cons_zero, List.set_append_right _ _ (by omega), show A.length + 1 - A.length = 1 by omega, List.set_append_right _ _ (by omega), show A.length + 2 - A.length = 2 by omega]
  rfl
theorem copied3_step {fs : List P.Fr} {n k : Nat} {x y z : Int} (hl : fs.length = n) (hk : k < n) (hf : fs[k]? = some (x, y, z)) : (((copied3 fs n k).set (k * 3) (.int .i64 x)).set (k * 3 + 1) (.int .i64 y)).set (k * 3 + 2) (.int .i64 z) = copied3 fs n (k + 1) := by
  unfold copied3
  have e : (n - k) * 3 = (n - (k + 1)) * 3 + 1 + 1 + 1 := by omega
  have hlen : (fcs (fs.take k)).length = k * 3 := by rw [fcs_len, List.length_take]; omega
  obtain ⟨hk', hf'⟩ := List.getElem?_eq_some_iff.1 hf
  rw [e, List.replicate_succ, List.replicate_succ, List.replicate_succ, set3 hlen, List.take_succ_eq_append_getElem hk', hf', fcs_app, List.append_assoc]
  rfl
theorem copied3_all {fs : List P.Fr} {n : Nat} (hl : fs.length = n) : copied3 fs n n = fcs fs := by
  unfold copied3; rw [Nat.sub_self, List.take_of_length_le (by omega)]; simp
theorem copied3_at {fs : List P.Fr} {n k j : Nat} (hl : fs.length = n) (hk : k < n) (h1 : k * 3 ≤ j) (h2 : j < n * 3) : (copied3 fs n k)[j]? = some (.int .i64 0) := by
  unfold copied3
  have hlen : (fcs (fs.take k)).length = k * 3 := by rw [fcs_len, List.length_take]; omega
  rw [List.getElem?_append_right (by omega), hlen, List.getElem?_replicate, if_pos (by omega)]
theorem made3 (n : Nat) : (madeCells (Value.agg #[.int .i64 0, .int .i64 0, .int .i64 0]).cells (n * 3)).toList = copied3 [] n 0 := by
  have e : copied3 [] n 0 = List.replicate (n * 3) (.int .i64 0) := by unfold copied3; simp [fcs]
  rw [e, List.eq_replicate_iff]
  refine ⟨by simp [madeCells], fun b hb => ?_⟩
  simp only [madeCells, Array.toList_map, List.mem_map] at hb
  obtain ⟨i, _, rfl⟩ := hb
  have h3 : (Value.agg #[.int .i64 0, .int .i64 0, .int .i64 0]).cells = #[.int .i64 0, .int .i64 0, .int .i64 0] := rfl
  rw [h3]
  have hs : (#[Value.int .i64 0, .int .i64 0, .int .i64 0]).size = 3 := rfl
  rw [hs]
  have hi := Nat.mod_lt i (show 0 < 3 by decide)
  have : i % 3 = 0 ∨ i % 3 = 1 ∨ i % 3 = 2 := by omega
  rcases this with h | h | h <;> rw [h] <;> rfl
theorem copied3_zero (fs : List P.Fr) (n : Nat) : copied3 fs n 0 = copied3 [] n 0 := by unfold copied3; simp [fcs]
theorem c_toFrameS (A : Option Addr) (n c : Nat) (fs : List P.Fr) (w : World) (hl : fs.length = n) (hn : n ≤ 1048576) (h : Holds w A (fcs fs)) :
    Calls Try.prog 125 #[.slice A n c] w fun e w' => e = .returned (.slice (some ⟨w.heap.size, 0, none⟩) n n) ∧ w'.ownsRow w.heap.size 57 3 (.slice (some ⟨w.heap.size, 0, none⟩) n n) n (fcs fs) ∧ Below w.heap.size w w' := by
  obtain ⟨i0, hi, hz0, hz1, hz2⟩ := info_parts info_frame
  have HCA := Lib.hid (copied3_all hl)
  have HZ := Lib.hid (made3 n)
  have HL := Lib.hid hl
  have HH := Lib.hid h
  clear h hl
  go_enter Try.func125, Try.ntmps125
  go_wp2_with (at_make; refine wpList_make_full _ rfl _ _ 61 rfl w.heap.size 57 i0 (.agg #[.int .i64 0, .int .i64 0, .int .i64 0]) 3 Try.underlying61 hi hz0 hz1 _ _ _ _ n rfl rfl rfl rfl (by rw [hz2]; omega) (by unfold maxLen; omega) (Nat.le_refl _) ?_)
  intro w1 hown1 hg1
  have hb1 : Below w.heap.size w w1 := (Below.refl _ _).grown hg1 (Nat.le_refl _) (fun k hk => by cases hk)
  have HO := Lib.hid (show w1.ownsRow w.heap.size 57 3 (.slice (some ⟨w.heap.size, 0, none⟩) n n) n (copied3 fs n 0) by rw [copied3_zero, ← HZ.out]; exact hown1)
  clear hown1 hg1
  go_wp2
  go_loopw [4] (fun i wr => ∃ k : Nat, k ≤ n ∧ i = .int .i64 k ∧ wr.ownsRow w.heap.size 57 3 (.slice (some ⟨w.heap.size, 0, none⟩) n n) n (copied3 fs n k) ∧ Below w.heap.size w wr) (fun i _ => n - (intOf i).toNat)
  case atStart => exact ⟨0, Nat.zero_le _, rfl, HO.out, hb1⟩
  case round =>
    obtain ⟨k, hk, rfl, hown, hb⟩ := hrel
    by_cases hlt : k < n
    · skip
      obtain ⟨g, o, rfl, k0, k1, k2⟩ := fcells HH.out (k := k) (by rw [HL.out]; exact hlt)
      obtain ⟨f, hf⟩ : ∃ f, fs[k]'(by rw [HL.out]; exact hlt) = f := ⟨_, rfl⟩
      rw [hf] at k0 k1 k2
      obtain ⟨x, y, z⟩ := f
      simp only at k0 k1 k2
      have HF := Lib.hid hf
      have hgl := World.block_lt_of_cell? w _ k0
      have j0 := (hb.cell (p := ⟨g, o + k * 3, none⟩) hgl).trans k0
      have j1 := (hb.cell (p := ⟨g, o + k * 3 + 1, none⟩) hgl).trans k1
      have j2 := (hb.cell (p := ⟨g, o + k * 3 + 2, none⟩) hgl).trans k2
      clear k0 k1 k2 hf
      have HO1 := Lib.hid hown
      have HFK := Lib.hid (show fs[k]? = some (x, y, z) by rw [List.getElem?_eq_getElem (by rw [HL.out]; exact hlt)]; exact congrArg some HF.out)
      clear hown
      go_wp2_with fail
      refine (c_toFrame x y z _).mono ?_
      rintro e w2 ⟨rfl, hb2⟩
      have HO2 := Lib.hid (own_belowN HO1.out hb2)
      have hB2 := hb.trans (hb2.mono hb.size)
      have d0 : w2.cell? ⟨w.heap.size, k * 3, none⟩ = some (.int .i64 0) := by rw [HO2.out.cellAt _ (by omega)]; exact copied3_at HL.out hlt (by omega) (by omega)
      have d1 : w2.cell? ⟨w.heap.size, k * 3 + 1, none⟩ = some (.int .i64 0) := by rw [HO2.out.cellAt _ (by omega)]; exact copied3_at HL.out hlt (by omega) (by omega)
      have d2 : w2.cell? ⟨w.heap.size, k * 3 + 2, none⟩ = some (.int .i64 0) := by rw [HO2.out.cellAt _ (by omega)]; exact copied3_at HL.out hlt (by omega) (by omega)
      have e0 := HO2.out.frozenAt (k * 3)
      have e1 := HO2.out.frozenAt (k * 3 + 1)
      have e2 := HO2.out.frozenAt (k * 3 + 2)
      have hst := (((HO2.out.stored (k * 3) (.int .i64 x)).1.stored (k * 3 + 1) (.int .i64 y)).1.stored (k * 3 + 2) (.int .i64 z)).1
      rw [copied3_step HL.out hlt HFK.out] at hst
      have HST := Lib.hid hst
      have HB := Lib.hid (show Below w.heap.size w (((w2.setCell ⟨w.heap.size, k * 3, none⟩ (.int .i64 x)).setCell ⟨w.heap.size, k * 3 + 1, none⟩ (.int .i64 y)).setCell ⟨w.heap.size, k * 3 + 2, none⟩ (.int .i64 z)) from ((hB2.setCell (Nat.le_refl _) _).setCell (Nat.le_refl _) _).setCell (Nat.le_refl _) _)
      clear hst hb2
      go_wp2
      go_roundw
      case rel => exact ⟨k + 1, by omega, by go_num, HST.out, HB.out⟩
      case measure => simp [intOf]; omega
    · have HE := Lib.hid (show k = n by omega)
      have HO2 := Lib.hid hown
      clear hown
      go_wp2
      go_ret
      refine ⟨rfl, ?_, hb⟩
      rw [← HCA.out]
      have e1 := HO2.out
      rw [HE.out] at e1
      exact e1
theorem c_szFrameS (A : Option Addr) (n c : Nat) (w : World) (hn : n ≤ 1048576) : Calls Try.prog 124 #[.slice A n c, .int .i64 1048576] w fun e w' => e = .returned (.int .i64 (1048576 - n)) ∧ w = w' := by
  go_enter Try.func124, Try.ntmps124
  go_wp2
  go_ret
  exact ⟨rfl, rfl⟩
theorem c_szFrameL (A : Option Addr) (n c : Nat) (w : World) (hn : ¬ n ≤ 1048576) (hm : n ≤ 9223372036854775807) : Calls Try.prog 124 #[.slice A n c, .int .i64 1048576] w fun e w' => e = .returned (.int .i64 (-1)) ∧ w = w' := by
  go_enter Try.func124, Try.ntmps124
  go_wp2
  go_ret
  exact ⟨rfl, rfl⟩
/-- integers as marks from 1 on -/
def mkI (n : Nat) : List Int := List.map (fun (i : Nat) => (1 + (i : Int) : Int)) (List.range n)
theorem mkI_len (n : Nat) : (mkI n).length = n := by simp [mkI]
theorem mkI_at {n k : Nat} (h : k < n) : (vi (mkI n))[k]? = some (.int .i64 (1 + (k : Int))) := by
  unfold vi mkI
  rw [List.getElem?_map, List.getElem?_map, List.getElem?_range h]; rfl
def mkdI (xs : List Value) (j : Nat) : List Value := vi (mkI j) ++ xs.drop j
theorem mkdI_len (xs : List Value) (j : Nat) (h : j ≤ xs.length) : (mkdI xs j).length = xs.length := by
  unfold mkdI; rw [List.length_append, vi_len, mkI_len, List.length_drop]; omega
theorem mkdI_step (xs : List Value) (j : Nat) (h : j < xs.length) : (mkdI xs j).set j (.int .i64 (1 + (j : Int))) = mkdI xs (j + 1) := by
  unfold mkdI
  rw [List.set_append_right _ _ (by rw [vi_len, mkI_len]; omega), vi_len, mkI_len, Nat.sub_self, List.drop_eq_getElem_cons h, List.set_cons_zero]
  unfold mkI vi
  rw [List.range_succ, List.map_append, List.map_append, List.append_assoc]; rfl
theorem c_markIntS (A : Option Addr) (n c : Nat) (xs : List Value) (base : Nat) (w : World) (h : w.ownsRow base 3 1 (.slice A n c) n xs) (hl : n ≤ 2097152) :
    Calls Try.prog 129 #[.slice A n c, .int .i64 1] w fun e w' => e = .returned (.int .i64 (1 + n)) ∧
      w'.ownsRow base 3 1 (.slice A n c) n (vi (mkI n)) ∧ w.grownBy w' (Value.slice A n c).ownBlock := by
  have H0 := Lib.hid h
  rcases own_cases h with ⟨rfl, rfl⟩ | ⟨hx, g, rfl⟩
  · clear h
    go_enter Try.func129, Try.ntmps129
    go_wp2
    refine wp_loop_rounds 1 ?_
    rw [rounds_succ]
    go_wp2
    go_ret
    exact ⟨rfl, H0.out, World.grownBy.refl _ _⟩
  · have HX := Lib.hid hx
    clear h hx
    go_enter Try.func129, Try.ntmps129
    go_wp2
    go_loopw [1, 5] (fun k i wr => ∃ j : Nat, j ≤ n ∧ i = .int .i64 j ∧ k = .int .i64 (1 + (j : Int)) ∧ wr.ownsRow base 3 1 (.slice (some ⟨g, 0, none⟩) n c) n (mkdI xs j) ∧ w.grownBy wr (some g)) (fun _ i _ => n - (intOf i).toNat)
    case atStart => exact ⟨0, Nat.zero_le _, rfl, rfl, by show w.ownsRow _ _ _ _ _ (vi (mkI 0) ++ xs.drop 0); exact H0.out, World.grownBy.refl _ _⟩
    case round =>
      obtain ⟨j, hj, rfl, rfl, hown, hgr⟩ := hrel
      by_cases hlt : j < n
      · have hml := mkdI_len xs j (by rw [HX.out]; omega)
        have hc : wr.cell? ⟨g, j, none⟩ = some ((mkdI xs j)[j]'(by rw [hml, HX.out]; exact hlt)) := by rw [hown.cellAt j (by omega)]; exact List.getElem?_eq_getElem _
        obtain ⟨u, hu⟩ : ∃ u, (mkdI xs j)[j]'(by rw [hml, HX.out]; exact hlt) = u := ⟨_, rfl⟩
        rw [hu] at hc
        have hf := hown.frozenAt j
        have hst := hown.stored j (.int .i64 (1 + (j : Int)))
        rw [mkdI_step xs j (by rw [HX.out]; exact hlt)] at hst
        have HST := Lib.hid hst.1
        have HGR := Lib.hid (only_trans hgr hst.2)
        clear hst hown hu hml
        go_wp2
        go_roundw
        case rel => exact ⟨j + 1, by omega, by go_num, by go_num, HST.out, HGR.out⟩
        case measure => simp [intOf]; omega
      · have HE := Lib.hid (show j = n by omega)
        have HO := Lib.hid hown
        clear hown
        go_wp2
        go_ret
        refine ⟨ret_int (by rw [HE.out]), ?_, hgr⟩
        have e1 := HO.out
        rw [HE.out, show mkdI xs n = vi (mkI n) by unfold mkdI; rw [List.drop_of_length_le (by rw [HX.out]; omega), List.append_nil]] at e1
        exact e1
theorem c_heldIntS (A : Option Addr) (n c : Nat) (base : Nat) (w : World) (h : w.ownsRow base 3 1 (.slice A n c) n (vi (mkI n))) (hl : n ≤ 2097152) :
    Calls Try.prog 130 #[.slice A n c, .int .i64 1] w fun e w' => e = .returned (.int .i64 (1 + n)) ∧ w = w' := by
  have H0 := Lib.hid h
  rcases own_cases h with ⟨rfl, _⟩ | ⟨hx, g, rfl⟩
  · clear h
    go_enter Try.func130, Try.ntmps130
    go_wp2
    refine wp_loop_rounds 1 ?_
    rw [rounds_succ]
    go_wp2
    go_ret
    exact ⟨rfl, rfl⟩
  · clear h hx
    go_enter Try.func130, Try.ntmps130
    go_wp2
    go_loop [1, 5] (fun k i => ∃ j : Nat, j ≤ n ∧ i = .int .i64 j ∧ k = .int .i64 (1 + (j : Int))) (fun _ i => n - (intOf i).toNat)
    case atStart => exact ⟨0, Nat.zero_le _, rfl, rfl⟩
    case round =>
      obtain ⟨j, hj, rfl, rfl⟩ := hrel
      by_cases hlt : j < n
      · have hc : w.cell? ⟨g, j, none⟩ = some (.int .i64 (1 + (j : Int))) := by rw [H0.out.cellAt j (by omega)]; exact mkI_at hlt
        go_wp2
        go_round
        case rel => exact ⟨j + 1, by omega, by go_num, by go_num⟩
        case measure => simp [intOf]; omega
      · have HE := Lib.hid (show j = n by omega)
        go_wp2
        go_ret
        exact ⟨ret_int (by rw [HE.out]), rfl⟩
theorem c_markFrameS (g n c : Nat) (xs : List Value) (base T : Nat) (w : World) (h : w.ownsRow base T 3 (.slice (some ⟨g, 0, none⟩) n c) n xs) (hl : n ≤ 1048576) :
    Calls Try.prog 128 #[.slice (some ⟨g, 0, none⟩) n c, .int .i64 1] w fun e w' => e = .returned (.int .i64 (1 + 3 * (n : Int))) ∧ w.grownBy w' (some g) := by
  have H0 := Lib.hid h
  clear h
  go_enter Try.func128, Try.ntmps128
  go_wp2
  go_loopw [1, 5] (fun k i wr => ∃ (j : Nat) (ys : List Value), j ≤ n ∧ i = .int .i64 j ∧ k = .int .i64 (1 + 3 * (j : Int)) ∧ wr.ownsRow base T 3 (.slice (some ⟨g, 0, none⟩) n c) n ys ∧ w.grownBy wr (some g)) (fun _ i _ => n - (intOf i).toNat)
  case atStart => exact ⟨0, xs, Nat.zero_le _, rfl, rfl, H0.out, World.grownBy.refl _ _⟩
  case round =>
    obtain ⟨j, ys, hj, rfl, rfl, hown, hgr⟩ := hrel
    by_cases hlt : j < n
    · have hyl : ys.length = n * 3 := hown.1
      have c0 : wr.cell? ⟨g, j * 3, none⟩ = some (ys[j * 3]'(by omega)) := by rw [hown.cellAt _ (by omega)]; exact List.getElem?_eq_getElem _
      have c1 : wr.cell? ⟨g, j * 3 + 1, none⟩ = some (ys[j * 3 + 1]'(by omega)) := by rw [hown.cellAt _ (by omega)]; exact List.getElem?_eq_getElem _
      have c2 : wr.cell? ⟨g, j * 3 + 2, none⟩ = some (ys[j * 3 + 2]'(by omega)) := by rw [hown.cellAt _ (by omega)]; exact List.getElem?_eq_getElem _
      generalize ys[j * 3]'(by omega) = u0 at c0
      generalize ys[j * 3 + 1]'(by omega) = u1 at c1
      generalize ys[j * 3 + 2]'(by omega) = u2 at c2
      have f0 := hown.frozenAt (j * 3)
      have f1 := hown.frozenAt (j * 3 + 1)
      have f2 := hown.frozenAt (j * 3 + 2)
      have s1 := hown.stored (j * 3) (.int .i64 (1 + 3 * (j : Int)))
      have s2 := s1.1.stored (j * 3 + 1) (.int .i64 (1 + 3 * (j : Int) + 1))
      have s3 := s2.1.stored (j * 3 + 2) (.int .i64 (1 + 3 * (j : Int) + 1 + 1))
      have HST := Lib.hid s3.1
      have HGR := Lib.hid (only_trans (only_trans (only_trans hgr s1.2) s2.2) s3.2)
      clear s1 s2 s3 hown
      go_wp2
      go_roundw
      case rel => exact ⟨j + 1, _, by omega, by go_num, by go_num, HST.out, HGR.out⟩
      case measure => simp [intOf]; omega
    · have HE := Lib.hid (show j = n by omega)
      go_wp2
      go_ret
      exact ⟨ret_int (by rw [HE.out]), hgr⟩
end Go.Proofs.Ytfbanjmooknafaa
