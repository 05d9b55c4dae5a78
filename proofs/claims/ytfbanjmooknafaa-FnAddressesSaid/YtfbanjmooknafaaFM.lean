/-
  Contracts of the functions that put a number into an ascending list, and of AddressesOf.
-/
import Derived.Test.YtfbanjmooknafaaFL
import Derived.Deep.AppendLies
namespace Go.Proofs.Ytfbanjmooknafaa
open Go.RowKit
set_option linter.unusedSimpArgs false
set_option linter.unusedVariables false
set_option maxRecDepth 100000

theorem vi_at {l : List Int} {k : Nat} (h : k < l.length) : (vi l)[k]? = some (.int .i64 (l[k])) := by
  unfold vi; rw [List.getElem?_map, List.getElem?_eq_getElem h]; rfl
theorem vi_one (l : List Int) : ∀ v ∈ vi l, v.oneCell' = true := fun v hv => by
  unfold vi at hv
  obtain ⟨x, _, rfl⟩ := List.mem_map.1 hv
  rfl
/-- a row that is known whole: its block -/
theorem own_block {w : World} {B T g n cap : Nat} {xs : List Value} (h : w.ownsRow B T 1 (.slice (some ⟨g, 0, none⟩) n cap) n xs) : ∃ cur : List Value, w.heap[g]? = some (.cells cur.toArray T (0, 0)) ∧ B ≤ g ∧ n ≤ cap ∧ cap ≤ maxLen ∧ cur.length = cap ∧ cur.take n = xs := by
  rcases h.2 with ⟨h1, _⟩ | ⟨g', cap', cur, hv, hb, hg, hnc, hcm, hcs, htake⟩
  · injection h1 with e; cases e
  · injection hv with e1 e2 e3
    injection e1 with e1
    injection e1 with e1
    subst e1 e3
    exact ⟨cur.toList, by simpa using hg, hb, hnc, hcm, by simpa using hcs, by simpa using htake⟩
theorem block_own {w : World} {B T g n cap : Nat} {cur xs : List Value} (h : w.heap[g]? = some (.cells cur.toArray T (0, 0))) (hb : B ≤ g) (hn : n ≤ cap) (hc : cap ≤ maxLen) (hl : cur.length = cap) (ht : cur.take n = xs) : w.ownsRow B T 1 (.slice (some ⟨g, 0, none⟩) n cap) n xs :=
  ⟨by rw [← ht, List.length_take]; omega, .inr ⟨g, cap, cur.toArray, rfl, hb, h, hn, hc, by simpa using hl, by simpa using ht⟩⟩
/-- the row behind the move of an insertion -/
theorem ins_row {xs : List Int} {y : Int} {q k cap : Nat} {cur : List Value} (hq : xs.length = q) (hk : k ≤ q) (hcur : cur.length = cap) (hqc : q + 1 ≤ cap) (ht : cur.take (q + 1) = vi (xs ++ [0])) :
    ((splice cur (k + 1) (vi (xs.drop k))).take (q + 1)).set k (.int .i64 y) = vi (xs.take k ++ y :: xs.drop k) ∧ (splice cur (k + 1) (vi (xs.drop k))).length = cap := by
  have hd : (vi (xs.drop k)).length = q - k := by rw [vi_len, List.length_drop, hq]
  have hlen : (splice cur (k + 1) (vi (xs.drop k))).length = cap := by rw [length_splice _ _ _ (by rw [hd]; omega), hcur]
  refine ⟨?_, hlen⟩
  have e1 : (splice cur (k + 1) (vi (xs.drop k))).take (q + 1) = cur.take (k + 1) ++ vi (xs.drop k) := by
    unfold splice
    rw [← List.append_assoc, List.take_append_of_le_length (by rw [List.length_append, List.length_take, hd]; omega)]
    exact List.take_of_length_le (by rw [List.length_append, List.length_take, hd]; omega)
  have e2 : cur.take (k + 1) = (vi (xs ++ [0])).take (k + 1) := by
    rw [← ht, List.take_take]; congr 1; omega
  have e3 : (vi (xs ++ [0])).take (k + 1) = vi (xs.take k) ++ [(vi (xs ++ [0]))[k]'(by rw [vi_len, List.length_append]; simp; omega)] := by
    rw [List.take_succ_eq_append_getElem (by rw [vi_len, List.length_append]; simp; omega)]
    congr 1
    unfold vi
    rw [← List.map_take, List.take_append_of_le_length (by omega)]
  have hk2 : (vi (xs.take k)).length = k := by rw [vi_len, List.length_take]; omega
  rw [e1, e2, e3, List.append_assoc, List.set_append_right _ _ (by omega), hk2, Nat.sub_self, vi_app (xs.take k)]
  rfl
theorem src_cells {w : World} {g q k cap B : Nat} {xs : List Int} {x : Int} (hq : xs.length = q) (hown : w.ownsRow B 3 1 (.slice (some ⟨g, 0, none⟩) (q + 1) cap) (q + 1) (vi (xs ++ [x]))) :
    ∀ j v, (vi (xs.drop k))[j]? = some v → w.cell? ((⟨g, k, none⟩ : Addr).add j) = some v := fun j v hj => by
  have hadd : (⟨g, k, none⟩ : Addr).add j = ⟨g, k + j, none⟩ := by unfold Addr.add; split <;> simp_all
  have hlt := (List.getElem?_eq_some_iff.1 hj).1
  rw [vi_len, List.length_drop] at hlt
  rw [hadd, hown.cellAt (k + j) (by omega), ← hj]
  unfold vi
  rw [List.getElem?_map, List.getElem?_map, List.getElem?_append_left (by omega), List.getElem?_drop]
theorem asc_lt {xs : List Int} (h : P.asc xs) {i j : Nat} (hi : i < j) (hj : j < xs.length) : xs[i] < xs[j] := List.pairwise_iff_getElem.1 h i j (by omega) hj hi
theorem put_at {xs : List Int} {y : Int} {k : Nat} (h1 : ∀ j (hj : j < xs.length), j < k → xs[j] < y) (h2 : ∀ j (hj : j < xs.length), k ≤ j → y < xs[j]) : P.putI xs y = xs.take k ++ y :: xs.drop k := by
  conv => lhs; rw [← List.take_append_drop k xs]
  refine P.put_cut (fun x hx => ?_) (fun x hx => ?_)
  · obtain ⟨j, hj, rfl⟩ := List.getElem_of_mem hx
    rw [List.length_take] at hj
    rw [List.getElem_take]
    exact h1 j (by omega) (by omega)
  · obtain ⟨j, hj, rfl⟩ := List.getElem_of_mem hx
    rw [List.length_drop] at hj
    rw [List.getElem_drop]
    exact h2 (k + j) (by omega) (by omega)
theorem put_is {xs : List Int} {y : Int} {k : Nat} (h1 : ∀ j (hj : j < xs.length), j < k → xs[j] < y) (hk : k < xs.length) (h2 : xs[k] = y) : P.putI xs y = xs := by
  have e : xs = xs.take k ++ y :: xs.drop (k + 1) := by
    rw [← h2, ← List.drop_eq_getElem_cons hk, List.take_append_drop]
  rw [e]
  refine P.put_eq fun x hx => ?_
  obtain ⟨j, hj, rfl⟩ := List.getElem_of_mem hx
  rw [List.length_take] at hj
  rw [List.getElem_take]
  exact h1 j (by omega) (by omega)
theorem gt_step {xs : List Int} {y : Int} {k m : Nat} (h : ∀ j (hj : j < xs.length), k ≤ j → y < xs[j]) (hm : k = m + 1) {hml : m < xs.length} (hx : y < xs[m]) : ∀ j (hj : j < xs.length), m ≤ j → y < xs[j] := fun j hj hmj => by
  rcases Nat.lt_or_ge m j with h1 | h1
  · exact h j hj (by omega)
  · have e : j = m := by omega
    subst e; exact hx
theorem lt_all {xs : List Int} {y x : Int} {k m j : Nat} (ha : P.asc xs) (hm : k = m + 1) {hml : m < xs.length} (hx : xs[m] = x) (h1 : ¬ y < x) (h2 : ¬ x = y) (hj : j < xs.length) (hjk : j < k) : xs[j] < y := by
  rcases Nat.lt_or_ge j m with h | h
  · have := asc_lt ha h hml; omega
  · have e : j = m := by omega
    subst e; omega
/-- what putting a number into an ascending row returns -/
def RetPut (B : Nat) (w : World) (L : List Int) (e : Ending) (w' : World) : Prop := ∃ A cap, e = .returned (.slice A L.length cap) ∧ w'.ownsRow B 3 1 (.slice A L.length cap) L.length (vi L) ∧ Below B w w'
theorem ret_put {B n g cap : Nat} {w w' : World} {L M : List Int} (he : M = L) (hn : L.length = n) (hown : w'.ownsRow B 3 1 (.slice (some ⟨g, 0, none⟩) n cap) n (vi L)) (hb : Below B w w') : RetPut B w M (.returned (.slice (some ⟨g, 0, none⟩) n cap)) w' := by
  subst he hn
  exact ⟨_, cap, rfl, hown, hb⟩
theorem put_end {w : World} {B g q k cap : Nat} {xs : List Int} {y : Int} {cur ds : List Value} (hq : xs.length = q) (hk : k ≤ q) (hqc : q + 1 ≤ cap) (hcm : cap ≤ maxLen) (hBg : B ≤ g) (hcl : cur.length = cap) (ht : cur.take (q + 1) = vi (xs ++ [0])) (hd : vi (xs.drop k) = ds)
    (hg : w.heap[g]? = some (.cells (splice cur (k + 1) ds).toArray 3 (0, 0))) (hp : P.putI xs y = xs.take k ++ y :: xs.drop k) :
    (∃ u, w.cell? ⟨g, k, none⟩ = some u) ∧ w.frozen? ⟨g, k, none⟩ = false ∧ (w.setCell ⟨g, k, none⟩ (.int .i64 y)).ownsRow B 3 1 (.slice (some ⟨g, 0, none⟩) (q + 1) cap) (q + 1) (vi (P.putI xs y)) ∧ (P.putI xs y).length = q + 1 := by
  obtain ⟨h1, h2⟩ := ins_row (y := y) hq hk hcl hqc ht
  rw [hd] at h1 h2
  have hrow : w.ownsRow B 3 1 (.slice (some ⟨g, 0, none⟩) (q + 1) cap) (q + 1) ((splice cur (k + 1) ds).take (q + 1)) := block_own hg hBg hqc hcm h2 rfl
  have hl : ((splice cur (k + 1) ds).take (q + 1)).length = q + 1 := by rw [List.length_take, h2]; omega
  refine ⟨⟨_, by rw [hrow.cellAt k (by omega)]; exact List.getElem?_eq_getElem (by omega)⟩, hrow.frozenAt k, ?_, ?_⟩
  · have := (hrow.stored k (.int .i64 y)).1
    rw [h1, ← hp] at this
    exact this
  · rw [hp, List.length_append, List.length_cons, List.length_take, List.length_drop]; omega
theorem c_putInt (A : Option Addr) (q cp : Nat) (xs : List Int) (y : Int) (B : Nat) (w : World) (hq : xs.length = q) (hq2 : q ≤ 1000) (hB : B ≤ w.heap.size) (hasc : P.asc xs) (hown : w.ownsRow B 3 1 (.slice A q cp) q (vi xs)) : Calls Try.prog 186 #[.slice A q cp, .int .i64 y] w (RetPut B w (P.putI xs y)) := by
  obtain ⟨i0, hi, hz0, hz1, hz2⟩ := info_parts info_int
  have hSZ : (Try.prog.info? 3).map (·.size) = some 1 := by rw [hi]; exact congrArg some hz1
  have HQ := Lib.hid hq
  have HASC := Lib.hid hasc
  have HOWN := Lib.hid hown
  rcases own_cases hown with ⟨rfl, hx⟩ | ⟨hx, g, rfl⟩
  · clear hown hq hasc hx
    go_enter Try.func186, Try.ntmps186
    go_wp2
    have HP := Lib.hid (show P.putI xs y = xs.take 0 ++ y :: xs.drop 0 from put_at (fun j hj h => absurd h (by omega)) (fun j hj h => absurd hj (by have := HQ.out; omega)))
    refine wp_loop_rounds 1 ?_
    rw [rounds_succ]
    go_wp2_with (at_builtin; refine wpList_append_lies _ rfl _ _ 64 rfl B 3 i0 (.int .i64 0) 1 8 Try.underlying64 hi hz0 hz1 hz2 rfl (by decide) _ _ _ rfl (HOWN.out.alloc _) ⟨(w).heap.size, 0, none⟩ 1 1 [.int .i64 0] rfl rfl (one_new _ _ _) ?p2 ?p3 ?p4 ?p5 ?p6 _ rfl ?_)
    try (case p2 => (first | rfl | (intro u hu; simp at hu; subst hu; rfl)))
    try (case p3 => (omega))
    try (case p4 => (unfold maxLen; omega))
    try (case p5 => (omega))
    try (case p6 => (first | omega | (simp; omega)))
    intro g1 cap1 w5 hown5 hg5 _ _
    replace hown5 : w5.ownsRow B 3 1 (.slice (some ⟨g1, 0, none⟩) (0 + 1) cap1) (0 + 1) (vi (xs ++ [0])) := by rw [vi_app]; exact hown5
    have hb5 := below_app (Below.refl B w) hB HOWN.out hg5
    obtain ⟨cur, hheap, hBg, hn1, hcm, hcl, htk⟩ := own_block hown5
    have hsrc := src_cells (k := 0) HQ.out hown5
    have HSRC := Lib.hid hsrc
    have HHP := Lib.hid hheap
    have HTK := Lib.hid htk
    have hdl : (vi (xs.drop 0)).length = 0 - 0 := by rw [vi_len, List.length_drop, HQ.out]
    obtain ⟨ds, hds⟩ : ∃ ds, vi (xs.drop 0) = ds := ⟨_, rfl⟩
    have HONE := Lib.hid (vi_one (xs.drop 0))
    rw [hds] at hdl
    have HDS := Lib.hid hds
    clear hown5 hg5 hsrc hheap htk hds
    unfold maxLen at hcm
    have hw : IntKind.i64.wrap 1 = 1 := by first | decide | (rw [IntKind.wrap_i64]; omega)
    have hp1 : (1 : Int) ≤ (0 : Int) + 1 := by omega
    have hp2 : (0 : Int) ≤ 1 := by omega
    have hp3 : (0 : Int) ≤ (0 : Int) + 1 := by omega
    have hkc2 : ¬ cap1 = 0 := by omega
    by_cases hkc : cap1 = 0 + 1
    · subst hkc
      go_wp2_with fail
      go_region_law (refine step_copy_splice (P := Try.prog) rfl (.tmp 39) (.tmp 42) 64 64 rfl 3 Try.underlying64 hSZ _ _ _ _ _ _ (by simp [Act.eval, Act.put]; first | exact ⟨rfl, rfl, rfl⟩ | exact ⟨rfl, rfl⟩ | rfl) (by simp [Act.eval, Act.put]; first | exact ⟨rfl, rfl, rfl⟩ | exact ⟨rfl, rfl⟩ | rfl) g1 (0 + 1) cur 3 HHP.out ds (by rw [hdl]; simp [Nat.min_def] <;> omega) (fun h0 => absurd h0 (by omega)) (by omega) (by rw [← HDS.out]; exact HONE.out) B w ⟨hb5.os, hb5.tape, hb5.output, hb5.size, hb5.block⟩ hBg ?_; intro w6 hg6 hb6)
      obtain ⟨⟨u6, hc6⟩, hf6, hst, hln⟩ := put_end (k := 0) HQ.out (by omega) hn1 (by unfold maxLen; omega) hBg hcl HTK.out HDS.out hg6.out HP.out
      have HST := Lib.hid hst
      have HLN := Lib.hid hln
      clear hst hln
      go_wp2
      go_ret
      exact ret_put rfl HLN.out HST.out (hb6.setCell hBg _)
    · go_wp2_with fail
      go_region_law (refine step_copy_splice (P := Try.prog) rfl (.tmp 39) (.tmp 42) 64 64 rfl 3 Try.underlying64 hSZ _ _ _ _ _ _ (by simp [Act.eval, Act.put]; first | exact ⟨rfl, rfl, rfl⟩ | exact ⟨rfl, rfl⟩ | rfl) (by simp [Act.eval, Act.put]; first | exact ⟨rfl, rfl, rfl⟩ | exact ⟨rfl, rfl⟩ | rfl) g1 (0 + 1) cur 3 HHP.out ds (by rw [hdl]; simp [Nat.min_def] <;> omega) (fun h0 => ⟨rfl, ⟨g1, 0, none⟩, rfl, fun j v hj => HSRC.out j v (by rw [HDS.out]; exact hj)⟩) (by omega) (by rw [← HDS.out]; exact HONE.out) B w ⟨hb5.os, hb5.tape, hb5.output, hb5.size, hb5.block⟩ hBg ?_; intro w6 hg6 hb6)
      obtain ⟨⟨u6, hc6⟩, hf6, hst, hln⟩ := put_end (k := 0) HQ.out (by omega) hn1 (by unfold maxLen; omega) hBg hcl HTK.out HDS.out hg6.out HP.out
      have HST := Lib.hid hst
      have HLN := Lib.hid hln
      clear hst hln
      go_wp2
      go_ret
      exact ret_put rfl HLN.out HST.out (hb6.setCell hBg _)
  · clear hown hq hasc hx
    go_enter Try.func186, Try.ntmps186
    go_wp2
    go_loop [5] (fun i => ∃ k : Nat, k ≤ q ∧ i = .int .i64 k ∧ ∀ j (hj : j < xs.length), k ≤ j → y < xs[j]) (fun i => (intOf i).toNat)
    case atStart => exact ⟨q, Nat.le_refl _, rfl, fun j hj h => absurd h (by have := HQ.out; omega)⟩
    case round =>
      obtain ⟨k, hk, rfl, hgt⟩ := hrel
      have HGT := Lib.hid hgt
      clear hgt
      rcases Nat.eq_zero_or_pos k with rfl | hk0
      · have HP := Lib.hid (show P.putI xs y = xs.take 0 ++ y :: xs.drop 0 from put_at (fun j hj h => absurd h (by omega)) HGT.out)
        go_wp2_with (at_builtin; refine wpList_append_lies _ rfl _ _ 64 rfl B 3 i0 (.int .i64 0) 1 8 Try.underlying64 hi hz0 hz1 hz2 rfl (by decide) _ _ _ rfl (HOWN.out.alloc _) ⟨(w).heap.size, 0, none⟩ 1 1 [.int .i64 0] rfl rfl (one_new _ _ _) ?p2 ?p3 ?p4 ?p5 ?p6 _ rfl ?_)
        try (case p2 => (first | rfl | (intro u hu; simp at hu; subst hu; rfl)))
        try (case p3 => (omega))
        try (case p4 => (unfold maxLen; omega))
        try (case p5 => (omega))
        try (case p6 => (first | omega | (simp; omega)))
        intro g1 cap1 w5 hown5 hg5 _ _
        replace hown5 : w5.ownsRow B 3 1 (.slice (some ⟨g1, 0, none⟩) (q + 1) cap1) (q + 1) (vi (xs ++ [0])) := by rw [vi_app]; exact hown5
        have hb5 := below_app (Below.refl B w) hB HOWN.out hg5
        obtain ⟨cur, hheap, hBg, hn1, hcm, hcl, htk⟩ := own_block hown5
        have hsrc := src_cells (k := 0) HQ.out hown5
        have HSRC := Lib.hid hsrc
        have HHP := Lib.hid hheap
        have HTK := Lib.hid htk
        have hdl : (vi (xs.drop 0)).length = q - 0 := by rw [vi_len, List.length_drop, HQ.out]
        obtain ⟨ds, hds⟩ : ∃ ds, vi (xs.drop 0) = ds := ⟨_, rfl⟩
        have HONE := Lib.hid (vi_one (xs.drop 0))
        rw [hds] at hdl
        have HDS := Lib.hid hds
        clear hown5 hg5 hsrc hheap htk hds
        unfold maxLen at hcm
        have hw : IntKind.i64.wrap 1 = 1 := by first | decide | (rw [IntKind.wrap_i64]; omega)
        have hp1 : (1 : Int) ≤ (q : Int) + 1 := by omega
        have hp2 : (0 : Int) ≤ 1 := by omega
        have hp3 : (0 : Int) ≤ (q : Int) + 1 := by omega
        have hkc2 : ¬ cap1 = 0 := by omega
        by_cases hkc : cap1 = 0 + 1
        · subst hkc
          go_wp2_with fail
          go_region_law (refine step_copy_splice (P := Try.prog) rfl (.tmp 39) (.tmp 42) 64 64 rfl 3 Try.underlying64 hSZ _ _ _ _ _ _ (by simp [Act.eval, Act.put]; first | exact ⟨rfl, rfl, rfl⟩ | exact ⟨rfl, rfl⟩ | rfl) (by simp [Act.eval, Act.put]; first | exact ⟨rfl, rfl, rfl⟩ | exact ⟨rfl, rfl⟩ | rfl) g1 (0 + 1) cur 3 HHP.out ds (by rw [hdl]; simp [Nat.min_def] <;> omega) (fun h0 => absurd h0 (by omega)) (by omega) (by rw [← HDS.out]; exact HONE.out) B w ⟨hb5.os, hb5.tape, hb5.output, hb5.size, hb5.block⟩ hBg ?_; intro w6 hg6 hb6)
          obtain ⟨⟨u6, hc6⟩, hf6, hst, hln⟩ := put_end (k := 0) HQ.out (by omega) hn1 (by unfold maxLen; omega) hBg hcl HTK.out HDS.out hg6.out HP.out
          have HST := Lib.hid hst
          have HLN := Lib.hid hln
          clear hst hln
          go_wp2
          go_ret
          exact ret_put rfl HLN.out HST.out (hb6.setCell hBg _)
        · go_wp2_with fail
          go_region_law (refine step_copy_splice (P := Try.prog) rfl (.tmp 39) (.tmp 42) 64 64 rfl 3 Try.underlying64 hSZ _ _ _ _ _ _ (by simp [Act.eval, Act.put]; first | exact ⟨rfl, rfl, rfl⟩ | exact ⟨rfl, rfl⟩ | rfl) (by simp [Act.eval, Act.put]; first | exact ⟨rfl, rfl, rfl⟩ | exact ⟨rfl, rfl⟩ | rfl) g1 (0 + 1) cur 3 HHP.out ds (by rw [hdl]; simp [Nat.min_def] <;> omega) (fun h0 => ⟨rfl, ⟨g1, 0, none⟩, rfl, fun j v hj => HSRC.out j v (by rw [HDS.out]; exact hj)⟩) (by omega) (by rw [← HDS.out]; exact HONE.out) B w ⟨hb5.os, hb5.tape, hb5.output, hb5.size, hb5.block⟩ hBg ?_; intro w6 hg6 hb6)
          obtain ⟨⟨u6, hc6⟩, hf6, hst, hln⟩ := put_end (k := 0) HQ.out (by omega) hn1 (by unfold maxLen; omega) hBg hcl HTK.out HDS.out hg6.out HP.out
          have HST := Lib.hid hst
          have HLN := Lib.hid hln
          clear hst hln
          go_wp2
          go_ret
          exact ret_put rfl HLN.out HST.out (hb6.setCell hBg _)
      · obtain ⟨m, hm⟩ : ∃ m, k = m + 1 := ⟨k - 1, by omega⟩
        have hml : m < xs.length := by rw [HQ.out]; omega
        obtain ⟨x, hx⟩ : ∃ x, xs[m] = x := ⟨_, rfl⟩
        have hc : w.cell? ⟨g, m, none⟩ = some (.int .i64 x) := by rw [HOWN.out.cellAt m (by omega), vi_at hml, hx]
        have hm1 : (k : Int) - 1 = (m : Int) := by omega
        have hk0' : (0 : Int) < (k : Int) := by omega
        have HML := Lib.hid hml
        have HX := Lib.hid hx
        have HM := Lib.hid hm
        clear hx hm
        by_cases hxy : y < x
        · have HG2 := Lib.hid (gt_step HGT.out HM.out (by rw [HX.out]; exact hxy))
          go_wp2
          go_round
          case rel => exact ⟨m, by omega, by go_num, HG2.out⟩
          case measure => simp [intOf]; omega
        · by_cases hxe : x = y
          · have HE := Lib.hid (put_is (y := y) (fun j hj hjm => by have := asc_lt HASC.out hjm HML.out; rw [HX.out] at this; omega) HML.out (by rw [HX.out]; exact hxe))
            subst hxe
            go_wp2
            go_ret
            exact ret_put HE.out HQ.out HOWN.out (Below.refl _ _)
          · have HP := Lib.hid (show P.putI xs y = xs.take k ++ y :: xs.drop k from put_at (fun j hj hjk => lt_all HASC.out HM.out HX.out hxy hxe hj hjk) HGT.out)
            have hne : ((x : Int) == y) = false := beq_eq_false_iff_ne.2 hxe
            go_wp2_with (at_builtin; refine wpList_append_lies _ rfl _ _ 64 rfl B 3 i0 (.int .i64 0) 1 8 Try.underlying64 hi hz0 hz1 hz2 rfl (by decide) _ _ _ rfl (HOWN.out.alloc _) ⟨(w).heap.size, 0, none⟩ 1 1 [.int .i64 0] rfl rfl (one_new _ _ _) ?p2 ?p3 ?p4 ?p5 ?p6 _ rfl ?_)
            try (case p2 => (first | rfl | (intro u hu; simp at hu; subst hu; rfl)))
            try (case p3 => (omega))
            try (case p4 => (unfold maxLen; omega))
            try (case p5 => (omega))
            try (case p6 => (first | omega | (simp; omega)))
            intro g1 cap1 w5 hown5 hg5 _ _
            replace hown5 : w5.ownsRow B 3 1 (.slice (some ⟨g1, 0, none⟩) (q + 1) cap1) (q + 1) (vi (xs ++ [0])) := by rw [vi_app]; exact hown5
            have hb5 := below_app (Below.refl B w) hB HOWN.out hg5
            obtain ⟨cur, hheap, hBg, hn1, hcm, hcl, htk⟩ := own_block hown5
            have hsrc := src_cells (k := k) HQ.out hown5
            have HSRC := Lib.hid hsrc
            have HHP := Lib.hid hheap
            have HTK := Lib.hid htk
            have hdl : (vi (xs.drop k)).length = q - k := by rw [vi_len, List.length_drop, HQ.out]
            obtain ⟨ds, hds⟩ : ∃ ds, vi (xs.drop k) = ds := ⟨_, rfl⟩
            have HONE := Lib.hid (vi_one (xs.drop k))
            rw [hds] at hdl
            have HDS := Lib.hid hds
            clear hown5 hg5 hsrc hheap htk hds
            unfold maxLen at hcm
            have hw : IntKind.i64.wrap ((k : Int) + 1) = ((k : Int) + 1) := by first | decide | (rw [IntKind.wrap_i64]; omega)
            have hp1 : (((k : Int) + 1) : Int) ≤ (q : Int) + 1 := by omega
            have hp2 : (0 : Int) ≤ ((k : Int) + 1) := by omega
            have hp3 : (k : Int) ≤ (q : Int) + 1 := by omega
            have hkc2 : ¬ cap1 = k := by omega
            by_cases hkc : cap1 = k + 1
            · subst hkc
              go_wp2_with fail
              go_region_law (refine step_copy_splice (P := Try.prog) rfl (.tmp 39) (.tmp 42) 64 64 rfl 3 Try.underlying64 hSZ _ _ _ _ _ _ (by simp [Act.eval, Act.put]; first | exact ⟨rfl, rfl, rfl⟩ | exact ⟨rfl, rfl⟩ | rfl) (by simp [Act.eval, Act.put]; first | exact ⟨rfl, rfl, rfl⟩ | exact ⟨rfl, rfl⟩ | rfl) g1 (k + 1) cur 3 HHP.out ds (by rw [hdl]; simp [Nat.min_def] <;> omega) (fun h0 => absurd h0 (by omega)) (by omega) (by rw [← HDS.out]; exact HONE.out) B w ⟨hb5.os, hb5.tape, hb5.output, hb5.size, hb5.block⟩ hBg ?_; intro w6 hg6 hb6)
              obtain ⟨⟨u6, hc6⟩, hf6, hst, hln⟩ := put_end (k := k) HQ.out (by omega) hn1 (by unfold maxLen; omega) hBg hcl HTK.out HDS.out hg6.out HP.out
              have HST := Lib.hid hst
              have HLN := Lib.hid hln
              clear hst hln
              go_wp2
              go_ret
              exact ret_put rfl HLN.out HST.out (hb6.setCell hBg _)
            · go_wp2_with fail
              go_region_law (refine step_copy_splice (P := Try.prog) rfl (.tmp 39) (.tmp 42) 64 64 rfl 3 Try.underlying64 hSZ _ _ _ _ _ _ (by simp [Act.eval, Act.put]; first | exact ⟨rfl, rfl, rfl⟩ | exact ⟨rfl, rfl⟩ | rfl) (by simp [Act.eval, Act.put]; first | exact ⟨rfl, rfl, rfl⟩ | exact ⟨rfl, rfl⟩ | rfl) g1 (k + 1) cur 3 HHP.out ds (by rw [hdl]; simp [Nat.min_def] <;> omega) (fun h0 => ⟨rfl, ⟨g1, k, none⟩, rfl, fun j v hj => HSRC.out j v (by rw [HDS.out]; exact hj)⟩) (by omega) (by rw [← HDS.out]; exact HONE.out) B w ⟨hb5.os, hb5.tape, hb5.output, hb5.size, hb5.block⟩ hBg ?_; intro w6 hg6 hb6)
              obtain ⟨⟨u6, hc6⟩, hf6, hst, hln⟩ := put_end (k := k) HQ.out (by omega) hn1 (by unfold maxLen; omega) hBg hcl HTK.out HDS.out hg6.out HP.out
              have HST := Lib.hid hst
              have HLN := Lib.hid hln
              clear hst hln
              go_wp2
              go_ret
              exact ret_put rfl HLN.out HST.out (hb6.setCell hBg _)
/-- the same, the slice's block given -/
def RetPutS (B : Nat) (w : World) (L : List Int) (e : Ending) (w' : World) : Prop := ∃ g cap, e = .returned (.slice (some ⟨g, 0, none⟩) L.length cap) ∧ w'.ownsRow B 3 1 (.slice (some ⟨g, 0, none⟩) L.length cap) L.length (vi L) ∧ Below B w w'
theorem ret_putS {B n g cap : Nat} {w w' : World} {L M : List Int} (he : M = L) (hn : L.length = n) (hown : w'.ownsRow B 3 1 (.slice (some ⟨g, 0, none⟩) n cap) n (vi L)) (hb : Below B w w') : RetPutS B w M (.returned (.slice (some ⟨g, 0, none⟩) n cap)) w' := by
  subst he hn
  exact ⟨_, cap, rfl, hown, hb⟩
theorem lt_step {xs : List Int} {y : Int} {k : Nat} (h : ∀ j (hj : j < xs.length), j < k → xs[j] < y) {hk : k < xs.length} (hx : xs[k] < y) : ∀ j (hj : j < xs.length), j < k + 1 → xs[j] < y := fun j hj hjk => by
  rcases Nat.lt_or_ge j k with h1 | h1
  · exact h j hj h1
  · have e : j = k := by omega
    subst e; exact hx
theorem gt_all {xs : List Int} {y x : Int} {k j : Nat} (ha : P.asc xs) {hk : k < xs.length} (hx : xs[k] = x) (h1 : ¬ x < y) (h2 : ¬ x = y) (hj : j < xs.length) (hjk : k ≤ j) : y < xs[j] := by
  rcases Nat.lt_or_ge k j with h | h
  · have := asc_lt ha h hj; omega
  · have e : j = k := by omega
    subst e; omega
theorem step_append_mine {P : Program} {ops : Array Oper} {o : Oper} {a : Act} {w : World} {K : Act → World → Prop} {Q : Exit → Act → World → Prop} {E : Prop} (hgd : o.guard = none) (s x : Operand) (t : TypeId)
    (ho : o.op = .call { callee := .builtin .append, args := #[s, x], argTypes := #[t, t] })
    (base : Nat) (e : TypeId) (i : TypeInfo) (z : Value) (size bytes : Nat) (ht : P.underlying t = some (.slice e)) (hi : P.info? e = some i) (hz : i.zero = some z)
    (hsize : i.size = size) (hby : i.bytes = bytes) (hzs : z.cells.size = size) (hsz : 0 < size)
    (v : Value) (n : Nat) (xs : List Value) (hs : a.eval s = v) (hown : w.ownsRow base e size v n xs)
    (ad : Addr) (m c : Nat) (news : List Value) (hx : a.eval x = .slice (some ad) m c) (hl : news.length = m * size) (hnews : ∀ j u, news[j]? = some u → w.cell? (ad.add j) = some u) (h1 : ∀ u ∈ news, u.oneCell' = true)
    (h63 : n + m ≤ maxLen) (hbytes : (n + m) * bytes ≤ 140737488355328) (hbase : base ≤ w.heap.size)
    (h : ∀ v' w', w'.ownsRow base e size v' (n + m) (xs ++ news) → w.grownBy w' v.ownBlock → K (a.put o.dst v') w') :
    if Region.wanted o (yielded ops a.tmps) = true then Oper.wp P o a w K Q else E := by
  have hw : Region.wanted o (yielded ops a.tmps) = true := by simp [Region.wanted, hgd]
  rw [if_pos hw]
  exact wp_append_own w s x t ho base e i z size bytes ht hi hz hsize hby hzs hsz v n xs hs hown ad m c news hx hl hnews h1 h63 hbytes hbase (fun v' w' h2 h3 _ => h v' w' h2 h3)
/-- cells of a part of a row, in whatever later world -/
theorem part_cells {w W : World} {B g q cap k d : Nat} {xs : List Int} (hq : xs.length = q) (hown : w.ownsRow B 3 1 (.slice (some ⟨g, 0, none⟩) q cap) q (vi xs)) (hb : Below w.heap.size w W) :
    ∀ j v, (vi ((xs.drop k).take d))[j]? = some v → W.cell? ((⟨g, k, none⟩ : Addr).add j) = some v := fun j v hj => by
  have hadd : (⟨g, k, none⟩ : Addr).add j = ⟨g, k + j, none⟩ := by unfold Addr.add; split <;> simp_all
  have hlt := (List.getElem?_eq_some_iff.1 hj).1
  rw [vi_len, List.length_take, List.length_drop] at hlt
  have hc : w.cell? ⟨g, k + j, none⟩ = some v := by
    rw [hown.cellAt (k + j) (by omega), ← hj]
    unfold vi
    rw [List.getElem?_map, List.getElem?_map, List.getElem?_take_of_lt (by omega), List.getElem?_drop]
  rw [hadd]
  exact (hb.cell (p := ⟨g, k + j, none⟩) (World.block_lt_of_cell? w _ hc)).trans hc
theorem below_mine {w W w1 : World} {T : TypeId} {v : Value} {n : Nat} {xs : List Value} (hb : Below w.heap.size w W) (hown : W.ownsRow w.heap.size T 1 v n xs) (hg : W.grownBy w1 v.ownBlock) : Below w.heap.size w w1 :=
  hb.grown hg hb.size (fun k hk => (hown.lt k hk).1)
theorem one_cell {W : World} {b : Nat} {u : Value} (h : W.cell? ⟨b, 0, none⟩ = some u) : ∀ (j : Nat) (x : Value), [u][j]? = some x → W.cell? ((⟨b, 0, none⟩ : Addr).add j) = some x := fun j x hj => by
  cases j with
  | zero =>
    simp at hj
    subst hj
    have hadd : (⟨b, 0, none⟩ : Addr).add 0 = ⟨b, 0, none⟩ := by unfold Addr.add; split <;> simp_all
    rw [hadd]; exact h
  | succ j => simp at hj
theorem put_row {xs : List Int} {y : Int} {q k : Nat} (hq : xs.length = q) (hk : k ≤ q) (ds : List Value) (hd : ds = vi ((xs.drop k).take (q - k))) : (([] ++ vi ((xs.drop 0).take k)) ++ [.int .i64 y]) ++ ds = vi (xs.take k ++ y :: xs.drop k) := by
  rw [hd, List.nil_append, List.drop_zero, List.take_of_length_le (l := xs.drop k) (by rw [List.length_drop]; omega), vi_app (xs.take k), List.append_assoc]
  rfl
theorem cell_new1 (W : World) (u : Value) (T : TypeId) : (W.alloc (.cells #[u] T)).cell? ⟨W.heap.size, 0, none⟩ = some u := by simp
theorem sput_facts (w : World) (y : Int) :
    (w.drew.alloc (.cells #[] 3)).ownsRow w.heap.size 3 1 (.slice (some ⟨w.heap.size, 0, none⟩) 0 0) 0 [] ∧
    ((w.drew.alloc (.cells #[] 3)).alloc (.cells #[.int .i64 y] 3)).ownsRow w.heap.size 3 1 (.slice (some ⟨w.heap.size, 0, none⟩) 0 0) 0 [] ∧
    ((w.drew.alloc (.cells #[.int .i64 y] 3)).alloc (.cells #[] 3)).ownsRow w.heap.size 3 1 (.slice (some ⟨w.heap.size + 1, 0, none⟩) 0 0) 0 [] ∧
    Below w.heap.size w (w.drew.alloc (.cells #[] 3)) ∧
    Below w.heap.size w ((w.drew.alloc (.cells #[] 3)).alloc (.cells #[.int .i64 y] 3)) ∧
    Below w.heap.size w ((w.drew.alloc (.cells #[.int .i64 y] 3)).alloc (.cells #[] 3)) ∧
    ((w.drew.alloc (.cells #[] 3)).alloc (.cells #[.int .i64 y] 3)).cell? ⟨w.heap.size + 1, 0, none⟩ = some (.int .i64 y) ∧
    ((w.drew.alloc (.cells #[.int .i64 y] 3)).alloc (.cells #[] 3)).cell? ⟨w.heap.size, 0, none⟩ = some (.int .i64 y) := by
  have e1 : (w.drew.alloc (.cells #[.int .i64 y] 3)).heap.size = w.heap.size + 1 := by simp
  have e2 : (w.drew.alloc (.cells #[] 3)).heap.size = w.heap.size + 1 := by simp
  have fa : (w.drew.alloc (.cells #[] 3)).ownsRow w.heap.size 3 1 (.slice (some ⟨w.heap.size, 0, none⟩) 0 0) 0 [] := World.ownsRow_made w.drew _ _ (Nat.le_refl _) (by unfold maxLen; omega) rfl
  have fc := World.ownsRow_made (base := w.heap.size) (e := 3) (size := 1) (w.drew.alloc (.cells #[.int .i64 y] 3)) #[] 0 (by omega) (by unfold maxLen; omega) rfl
  have cb := cell_new1 (w.drew.alloc (.cells #[] 3)) (.int .i64 y) 3
  have ba := ((Below.refl w.heap.size w).drew).alloc (Nat.le_refl _) (.cells #[] 3)
  have bc := ((Below.refl w.heap.size w).drew).alloc (Nat.le_refl _) (.cells #[.int .i64 y] 3)
  rw [e1] at fc
  rw [e2] at cb
  exact ⟨fa, fa.alloc _, fc, ba, ba.alloc ba.size _, bc.alloc bc.size _, cb, cell_alloc_keep (cell_new1 w.drew (.int .i64 y) 3)⟩
set_option maxHeartbeats 2000000 in
theorem c_l1Put (g q cp : Nat) (xs : List Int) (y : Int) (B : Nat) (w : World) (hq : xs.length = q) (hq2 : q ≤ 1000) (hB : B ≤ w.heap.size) (hasc : P.asc xs) (hown : w.ownsRow B 3 1 (.slice (some ⟨g, 0, none⟩) q cp) q (vi xs)) : Calls Try.prog 187 #[.slice (some ⟨g, 0, none⟩) q cp, .int .i64 y] w (RetPutS B w (P.putI xs y)) := by
  obtain ⟨i0, hi, hz0, hz1, hz2⟩ := info_parts info_int
  obtain ⟨cur0, _, _, hqc, _, _, _⟩ := own_block hown
  have HQ := Lib.hid hq
  have HASC := Lib.hid hasc
  have HOWN := Lib.hid hown
  clear hown hq hasc
  go_enter Try.func187, Try.ntmps187
  go_wp2
  go_loop [5] (fun i => ∃ k : Nat, k ≤ q ∧ i = .int .i64 k ∧ ∀ j (hj : j < xs.length), j < k → xs[j] < y) (fun i => q - (intOf i).toNat)
  case atStart => exact ⟨0, Nat.zero_le _, rfl, fun j hj h => absurd h (by omega)⟩
  case round =>
    obtain ⟨k, hk, rfl, hlt'⟩ := hrel
    have HLT := Lib.hid hlt'
    clear hlt'
    by_cases hlt : k < q
    · have hkl : k < xs.length := by rw [HQ.out]; exact hlt
      obtain ⟨x, hx⟩ : ∃ x, xs[k] = x := ⟨_, rfl⟩
      have hc : w.cell? ⟨g, k, none⟩ = some (.int .i64 x) := by rw [HOWN.out.cellAt k (by omega), vi_at hkl, hx]
      have HKL := Lib.hid hkl
      have HX := Lib.hid hx
      clear hx
      by_cases hxy : x < y
      · have HG2 := Lib.hid (lt_step HLT.out (by rw [HX.out]; exact hxy))
        go_wp2
        go_round
        case rel => exact ⟨k + 1, by omega, by go_num, HG2.out⟩
        case measure => simp [intOf]; omega
      · by_cases hxe : x = y
        · have HE := Lib.hid (put_is (y := y) HLT.out HKL.out (by rw [HX.out]; exact hxe))
          subst hxe
          go_wp2
          go_ret
          exact ret_putS HE.out HQ.out HOWN.out (Below.refl _ _)
        · have hne : ((x : Int) == y) = false := beq_eq_false_iff_ne.2 hxe
          have HP := Lib.hid (show P.putI xs y = xs.take k ++ y :: xs.drop k from put_at HLT.out (fun j hj hjk => gt_all HASC.out HX.out hxy hxe hj hjk))
          have hkc : ¬ cp = k := by omega
          go_wp2_with fail
          have hp1 : (k : Int) ≤ (q : Int) := by omega
          have hp2 : (k : Int) ≤ (cp : Int) := by omega
          obtain ⟨fa, fb, fc, ba, bb, bc, cb, cc⟩ := sput_facts w y
          have FA := Lib.hid fa
          have FB := Lib.hid fb
          have FC := Lib.hid fc
          have BA := Lib.hid ba
          have BB := Lib.hid bb
          have BC := Lib.hid bc
          have CB := Lib.hid cb
          have CC := Lib.hid cc
          clear fa fb fc ba bb bc cb cc
          have L1 := Lib.hid (show (vi ((xs.drop 0).take k)).length = k * 1 by rw [vi_len, List.length_take, List.length_drop, HQ.out]; omega)
          have M1 := Lib.hid (show 0 + k + 1 + (q - k) ≤ maxLen by unfold maxLen; omega)
          go_region_law (first
            | (refine step_append_mine (P := Try.prog) rfl (.tmp 33) (.tmp 36) 64 rfl w.heap.size 3 i0 (.int .i64 0) 1 8 Try.underlying64 hi hz0 hz1 hz2 rfl (by decide) (.slice (some ⟨w.heap.size, 0, none⟩) 0 0) 0 [] rfl FA.out ⟨g, 0, none⟩ k cp (vi ((xs.drop 0).take k)) rfl L1.out (part_cells HQ.out HOWN.out BA.out) (vi_one _) (by have := M1.out; omega) (by omega) BA.out.size ?_
               intro v1 w1 ho1 hg1
               have HO1 := Lib.hid ho1
               have HB1 := Lib.hid (below_mine BA.out FA.out hg1)
               clear ho1 hg1)
            | (refine step_append_mine (P := Try.prog) rfl (.tmp 33) (.tmp 36) 64 rfl w.heap.size 3 i0 (.int .i64 0) 1 8 Try.underlying64 hi hz0 hz1 hz2 rfl (by decide) (.slice (some ⟨w.heap.size, 0, none⟩) 0 0) 0 [] rfl FB.out ⟨g, 0, none⟩ k cp (vi ((xs.drop 0).take k)) rfl L1.out (part_cells HQ.out HOWN.out BB.out) (vi_one _) (by have := M1.out; omega) (by omega) BB.out.size ?_
               intro v1 w1 ho1 hg1
               have HO1 := Lib.hid ho1
               have HB1 := Lib.hid (below_mine BB.out FB.out hg1)
               have HY1 := Lib.hid (hg1.cell CB.out (by simp [Value.ownBlock]))
               clear ho1 hg1)
            | (refine step_append_mine (P := Try.prog) rfl (.tmp 33) (.tmp 36) 64 rfl w.heap.size 3 i0 (.int .i64 0) 1 8 Try.underlying64 hi hz0 hz1 hz2 rfl (by decide) (.slice (some ⟨w.heap.size + 1, 0, none⟩) 0 0) 0 [] rfl FC.out ⟨g, 0, none⟩ k cp (vi ((xs.drop 0).take k)) rfl L1.out (part_cells HQ.out HOWN.out BC.out) (vi_one _) (by have := M1.out; omega) (by omega) BC.out.size ?_
               intro v1 w1 ho1 hg1
               have HO1 := Lib.hid ho1
               have HB1 := Lib.hid (below_mine BC.out FC.out hg1)
               have HY1 := Lib.hid (hg1.cell CC.out (by simp [Value.ownBlock]))
               clear ho1 hg1)
            | (refine step_append_mine (P := Try.prog) rfl (.tmp 37) (.tmp 39) 64 rfl w.heap.size 3 i0 (.int .i64 0) 1 8 Try.underlying64 hi hz0 hz1 hz2 rfl (by decide) v1 (0 + k) ([] ++ vi ((xs.drop 0).take k)) rfl (HO1.out.alloc _) ⟨w1.heap.size, 0, none⟩ 1 1 [.int .i64 y] rfl rfl (one_new _ _ _) (by intro u hu; simp at hu; subst hu; rfl) (by have := M1.out; omega) (by omega) (HB1.out.alloc HB1.out.size _).size ?_
               intro v2 w2 ho2 hg2
               have HO2 := Lib.hid ho2
               have HB2 := Lib.hid (below_mine (HB1.out.alloc HB1.out.size _) (HO1.out.alloc _) hg2)
               clear ho2 hg2)
            | (refine step_append_mine (P := Try.prog) rfl (.tmp 37) (.tmp 39) 64 rfl w.heap.size 3 i0 (.int .i64 0) 1 8 Try.underlying64 hi hz0 hz1 hz2 rfl (by decide) v1 (0 + k) ([] ++ vi ((xs.drop 0).take k)) rfl HO1.out ⟨w.heap.size + 1, 0, none⟩ 1 1 [.int .i64 y] rfl rfl (one_cell HY1.out) (by intro u hu; simp at hu; subst hu; rfl) (by have := M1.out; omega) (by omega) HB1.out.size ?_
               intro v2 w2 ho2 hg2
               have HO2 := Lib.hid ho2
               have HB2 := Lib.hid (below_mine HB1.out HO1.out hg2)
               clear ho2 hg2)
            | (refine step_append_mine (P := Try.prog) rfl (.tmp 37) (.tmp 39) 64 rfl w.heap.size 3 i0 (.int .i64 0) 1 8 Try.underlying64 hi hz0 hz1 hz2 rfl (by decide) v1 (0 + k) ([] ++ vi ((xs.drop 0).take k)) rfl HO1.out ⟨w.heap.size, 0, none⟩ 1 1 [.int .i64 y] rfl rfl (one_cell HY1.out) (by intro u hu; simp at hu; subst hu; rfl) (by have := M1.out; omega) (by omega) HB1.out.size ?_
               intro v2 w2 ho2 hg2
               have HO2 := Lib.hid ho2
               have HB2 := Lib.hid (below_mine HB1.out HO1.out hg2)
               clear ho2 hg2)
            | (refine step_append_mine (P := Try.prog) rfl (.tmp 40) (.tmp 43) 64 rfl w.heap.size 3 i0 (.int .i64 0) 1 8 Try.underlying64 hi hz0 hz1 hz2 rfl (by decide) v2 (0 + k + 1) (([] ++ vi ((xs.drop 0).take k)) ++ [.int .i64 y]) rfl HO2.out ⟨g, k, none⟩ (q - k) (cp - k) (vi ((xs.drop k).take (q - k))) rfl (by first | (rw [vi_len, List.length_take, List.length_drop, HQ.out]; omega) | (simp; omega) | simp) (part_cells HQ.out HOWN.out HB2.out) (by first | exact vi_one _ | simp) (by have := M1.out; omega) (by omega) HB2.out.size ?_
               intro v3 w3 ho3 hg3
               have HO3 := Lib.hid ho3
               have HB3 := Lib.hid (below_mine HB2.out HO2.out hg3)
               clear ho3 hg3))
          all_goals
            obtain ⟨g3, c3, hv3, _⟩ := own_form HO3.out (by omega)
            subst hv3
            go_wp2
            go_ret
            have ho3 := HO3.out
            rw [put_row HQ.out (by omega) _ (by first | rfl | (rw [List.drop_of_length_le (by rw [HQ.out]; omega)]; simp [vi])), ← HP.out] at ho3
            exact ret_putS rfl (by rw [HP.out, List.length_append, List.length_cons, List.length_take, List.length_drop, HQ.out]; omega) (Go.Joins.ownsRow_le ho3 hB) (Below.mono HB3.out hB)
    · have HP := Lib.hid (show P.putI xs y = xs.take k ++ y :: xs.drop k from put_at HLT.out (fun j hj hjk => absurd hj (by have := HQ.out; omega)))
      by_cases hkc : cp = k
      · subst hkc
        go_wp2_with fail
        have hp1 : (cp : Int) ≤ (q : Int) := by omega
        have hp2 : (cp : Int) ≤ (cp : Int) := by omega
        obtain ⟨fa, fb, fc, ba, bb, bc, cb, cc⟩ := sput_facts w y
        have FA := Lib.hid fa
        have FB := Lib.hid fb
        have FC := Lib.hid fc
        have BA := Lib.hid ba
        have BB := Lib.hid bb
        have BC := Lib.hid bc
        have CB := Lib.hid cb
        have CC := Lib.hid cc
        clear fa fb fc ba bb bc cb cc
        have L1 := Lib.hid (show (vi ((xs.drop 0).take cp)).length = cp * 1 by rw [vi_len, List.length_take, List.length_drop, HQ.out]; omega)
        have M1 := Lib.hid (show 0 + cp + 1 + (q - cp) ≤ maxLen by unfold maxLen; omega)
        go_region_law (first
          | (refine step_append_mine (P := Try.prog) rfl (.tmp 33) (.tmp 36) 64 rfl w.heap.size 3 i0 (.int .i64 0) 1 8 Try.underlying64 hi hz0 hz1 hz2 rfl (by decide) (.slice (some ⟨w.heap.size, 0, none⟩) 0 0) 0 [] rfl FA.out ⟨g, 0, none⟩ cp cp (vi ((xs.drop 0).take cp)) rfl L1.out (part_cells HQ.out HOWN.out BA.out) (vi_one _) (by have := M1.out; omega) (by omega) BA.out.size ?_
             intro v1 w1 ho1 hg1
             have HO1 := Lib.hid ho1
             have HB1 := Lib.hid (below_mine BA.out FA.out hg1)
             clear ho1 hg1)
          | (refine step_append_mine (P := Try.prog) rfl (.tmp 33) (.tmp 36) 64 rfl w.heap.size 3 i0 (.int .i64 0) 1 8 Try.underlying64 hi hz0 hz1 hz2 rfl (by decide) (.slice (some ⟨w.heap.size, 0, none⟩) 0 0) 0 [] rfl FB.out ⟨g, 0, none⟩ cp cp (vi ((xs.drop 0).take cp)) rfl L1.out (part_cells HQ.out HOWN.out BB.out) (vi_one _) (by have := M1.out; omega) (by omega) BB.out.size ?_
             intro v1 w1 ho1 hg1
             have HO1 := Lib.hid ho1
             have HB1 := Lib.hid (below_mine BB.out FB.out hg1)
             have HY1 := Lib.hid (hg1.cell CB.out (by simp [Value.ownBlock]))
             clear ho1 hg1)
          | (refine step_append_mine (P := Try.prog) rfl (.tmp 33) (.tmp 36) 64 rfl w.heap.size 3 i0 (.int .i64 0) 1 8 Try.underlying64 hi hz0 hz1 hz2 rfl (by decide) (.slice (some ⟨w.heap.size + 1, 0, none⟩) 0 0) 0 [] rfl FC.out ⟨g, 0, none⟩ cp cp (vi ((xs.drop 0).take cp)) rfl L1.out (part_cells HQ.out HOWN.out BC.out) (vi_one _) (by have := M1.out; omega) (by omega) BC.out.size ?_
             intro v1 w1 ho1 hg1
             have HO1 := Lib.hid ho1
             have HB1 := Lib.hid (below_mine BC.out FC.out hg1)
             have HY1 := Lib.hid (hg1.cell CC.out (by simp [Value.ownBlock]))
             clear ho1 hg1)
          | (refine step_append_mine (P := Try.prog) rfl (.tmp 37) (.tmp 39) 64 rfl w.heap.size 3 i0 (.int .i64 0) 1 8 Try.underlying64 hi hz0 hz1 hz2 rfl (by decide) v1 (0 + cp) ([] ++ vi ((xs.drop 0).take cp)) rfl (HO1.out.alloc _) ⟨w1.heap.size, 0, none⟩ 1 1 [.int .i64 y] rfl rfl (one_new _ _ _) (by intro u hu; simp at hu; subst hu; rfl) (by have := M1.out; omega) (by omega) (HB1.out.alloc HB1.out.size _).size ?_
             intro v2 w2 ho2 hg2
             have HO2 := Lib.hid ho2
             have HB2 := Lib.hid (below_mine (HB1.out.alloc HB1.out.size _) (HO1.out.alloc _) hg2)
             clear ho2 hg2)
          | (refine step_append_mine (P := Try.prog) rfl (.tmp 37) (.tmp 39) 64 rfl w.heap.size 3 i0 (.int .i64 0) 1 8 Try.underlying64 hi hz0 hz1 hz2 rfl (by decide) v1 (0 + cp) ([] ++ vi ((xs.drop 0).take cp)) rfl HO1.out ⟨w.heap.size + 1, 0, none⟩ 1 1 [.int .i64 y] rfl rfl (one_cell HY1.out) (by intro u hu; simp at hu; subst hu; rfl) (by have := M1.out; omega) (by omega) HB1.out.size ?_
             intro v2 w2 ho2 hg2
             have HO2 := Lib.hid ho2
             have HB2 := Lib.hid (below_mine HB1.out HO1.out hg2)
             clear ho2 hg2)
          | (refine step_append_mine (P := Try.prog) rfl (.tmp 37) (.tmp 39) 64 rfl w.heap.size 3 i0 (.int .i64 0) 1 8 Try.underlying64 hi hz0 hz1 hz2 rfl (by decide) v1 (0 + cp) ([] ++ vi ((xs.drop 0).take cp)) rfl HO1.out ⟨w.heap.size, 0, none⟩ 1 1 [.int .i64 y] rfl rfl (one_cell HY1.out) (by intro u hu; simp at hu; subst hu; rfl) (by have := M1.out; omega) (by omega) HB1.out.size ?_
             intro v2 w2 ho2 hg2
             have HO2 := Lib.hid ho2
             have HB2 := Lib.hid (below_mine HB1.out HO1.out hg2)
             clear ho2 hg2)
          | (refine step_append_mine (P := Try.prog) rfl (.tmp 40) (.tmp 43) 64 rfl w.heap.size 3 i0 (.int .i64 0) 1 8 Try.underlying64 hi hz0 hz1 hz2 rfl (by decide) v2 (0 + cp + 1) (([] ++ vi ((xs.drop 0).take cp)) ++ [.int .i64 y]) rfl HO2.out ⟨g, 0, none⟩ 0 0 [] rfl (by first | (rw [vi_len, List.length_take, List.length_drop, HQ.out]; omega) | (simp; omega) | simp) (fun j v h => by simp at h) (by first | exact vi_one _ | simp) (by have := M1.out; omega) (by omega) HB2.out.size ?_
             intro v3 w3 ho3 hg3
             have HO3 := Lib.hid ho3
             have HB3 := Lib.hid (below_mine HB2.out HO2.out hg3)
             clear ho3 hg3))
        all_goals
          obtain ⟨g3, c3, hv3, _⟩ := own_form HO3.out (by omega)
          subst hv3
          go_wp2
          go_ret
          have ho3 := HO3.out
          rw [put_row HQ.out (by omega) _ (by first | rfl | (rw [List.drop_of_length_le (by rw [HQ.out]; omega)]; simp [vi])), ← HP.out] at ho3
          exact ret_putS rfl (by rw [HP.out, List.length_append, List.length_cons, List.length_take, List.length_drop, HQ.out]; omega) (Go.Joins.ownsRow_le ho3 hB) (Below.mono HB3.out hB)
      · skip
        go_wp2_with fail
        have hp1 : (k : Int) ≤ (q : Int) := by omega
        have hp2 : (k : Int) ≤ (cp : Int) := by omega
        obtain ⟨fa, fb, fc, ba, bb, bc, cb, cc⟩ := sput_facts w y
        have FA := Lib.hid fa
        have FB := Lib.hid fb
        have FC := Lib.hid fc
        have BA := Lib.hid ba
        have BB := Lib.hid bb
        have BC := Lib.hid bc
        have CB := Lib.hid cb
        have CC := Lib.hid cc
        clear fa fb fc ba bb bc cb cc
        have L1 := Lib.hid (show (vi ((xs.drop 0).take k)).length = k * 1 by rw [vi_len, List.length_take, List.length_drop, HQ.out]; omega)
        have M1 := Lib.hid (show 0 + k + 1 + (q - k) ≤ maxLen by unfold maxLen; omega)
        go_region_law (first
          | (refine step_append_mine (P := Try.prog) rfl (.tmp 33) (.tmp 36) 64 rfl w.heap.size 3 i0 (.int .i64 0) 1 8 Try.underlying64 hi hz0 hz1 hz2 rfl (by decide) (.slice (some ⟨w.heap.size, 0, none⟩) 0 0) 0 [] rfl FA.out ⟨g, 0, none⟩ k cp (vi ((xs.drop 0).take k)) rfl L1.out (part_cells HQ.out HOWN.out BA.out) (vi_one _) (by have := M1.out; omega) (by omega) BA.out.size ?_
             intro v1 w1 ho1 hg1
             have HO1 := Lib.hid ho1
             have HB1 := Lib.hid (below_mine BA.out FA.out hg1)
             clear ho1 hg1)
          | (refine step_append_mine (P := Try.prog) rfl (.tmp 33) (.tmp 36) 64 rfl w.heap.size 3 i0 (.int .i64 0) 1 8 Try.underlying64 hi hz0 hz1 hz2 rfl (by decide) (.slice (some ⟨w.heap.size, 0, none⟩) 0 0) 0 [] rfl FB.out ⟨g, 0, none⟩ k cp (vi ((xs.drop 0).take k)) rfl L1.out (part_cells HQ.out HOWN.out BB.out) (vi_one _) (by have := M1.out; omega) (by omega) BB.out.size ?_
             intro v1 w1 ho1 hg1
             have HO1 := Lib.hid ho1
             have HB1 := Lib.hid (below_mine BB.out FB.out hg1)
             have HY1 := Lib.hid (hg1.cell CB.out (by simp [Value.ownBlock]))
             clear ho1 hg1)
          | (refine step_append_mine (P := Try.prog) rfl (.tmp 33) (.tmp 36) 64 rfl w.heap.size 3 i0 (.int .i64 0) 1 8 Try.underlying64 hi hz0 hz1 hz2 rfl (by decide) (.slice (some ⟨w.heap.size + 1, 0, none⟩) 0 0) 0 [] rfl FC.out ⟨g, 0, none⟩ k cp (vi ((xs.drop 0).take k)) rfl L1.out (part_cells HQ.out HOWN.out BC.out) (vi_one _) (by have := M1.out; omega) (by omega) BC.out.size ?_
             intro v1 w1 ho1 hg1
             have HO1 := Lib.hid ho1
             have HB1 := Lib.hid (below_mine BC.out FC.out hg1)
             have HY1 := Lib.hid (hg1.cell CC.out (by simp [Value.ownBlock]))
             clear ho1 hg1)
          | (refine step_append_mine (P := Try.prog) rfl (.tmp 37) (.tmp 39) 64 rfl w.heap.size 3 i0 (.int .i64 0) 1 8 Try.underlying64 hi hz0 hz1 hz2 rfl (by decide) v1 (0 + k) ([] ++ vi ((xs.drop 0).take k)) rfl (HO1.out.alloc _) ⟨w1.heap.size, 0, none⟩ 1 1 [.int .i64 y] rfl rfl (one_new _ _ _) (by intro u hu; simp at hu; subst hu; rfl) (by have := M1.out; omega) (by omega) (HB1.out.alloc HB1.out.size _).size ?_
             intro v2 w2 ho2 hg2
             have HO2 := Lib.hid ho2
             have HB2 := Lib.hid (below_mine (HB1.out.alloc HB1.out.size _) (HO1.out.alloc _) hg2)
             clear ho2 hg2)
          | (refine step_append_mine (P := Try.prog) rfl (.tmp 37) (.tmp 39) 64 rfl w.heap.size 3 i0 (.int .i64 0) 1 8 Try.underlying64 hi hz0 hz1 hz2 rfl (by decide) v1 (0 + k) ([] ++ vi ((xs.drop 0).take k)) rfl HO1.out ⟨w.heap.size + 1, 0, none⟩ 1 1 [.int .i64 y] rfl rfl (one_cell HY1.out) (by intro u hu; simp at hu; subst hu; rfl) (by have := M1.out; omega) (by omega) HB1.out.size ?_
             intro v2 w2 ho2 hg2
             have HO2 := Lib.hid ho2
             have HB2 := Lib.hid (below_mine HB1.out HO1.out hg2)
             clear ho2 hg2)
          | (refine step_append_mine (P := Try.prog) rfl (.tmp 37) (.tmp 39) 64 rfl w.heap.size 3 i0 (.int .i64 0) 1 8 Try.underlying64 hi hz0 hz1 hz2 rfl (by decide) v1 (0 + k) ([] ++ vi ((xs.drop 0).take k)) rfl HO1.out ⟨w.heap.size, 0, none⟩ 1 1 [.int .i64 y] rfl rfl (one_cell HY1.out) (by intro u hu; simp at hu; subst hu; rfl) (by have := M1.out; omega) (by omega) HB1.out.size ?_
             intro v2 w2 ho2 hg2
             have HO2 := Lib.hid ho2
             have HB2 := Lib.hid (below_mine HB1.out HO1.out hg2)
             clear ho2 hg2)
          | (refine step_append_mine (P := Try.prog) rfl (.tmp 40) (.tmp 43) 64 rfl w.heap.size 3 i0 (.int .i64 0) 1 8 Try.underlying64 hi hz0 hz1 hz2 rfl (by decide) v2 (0 + k + 1) (([] ++ vi ((xs.drop 0).take k)) ++ [.int .i64 y]) rfl HO2.out ⟨g, k, none⟩ (q - k) (cp - k) [] rfl (by first | (rw [vi_len, List.length_take, List.length_drop, HQ.out]; omega) | (simp; omega) | simp) (fun j v h => by simp at h) (by first | exact vi_one _ | simp) (by have := M1.out; omega) (by omega) HB2.out.size ?_
             intro v3 w3 ho3 hg3
             have HO3 := Lib.hid ho3
             have HB3 := Lib.hid (below_mine HB2.out HO2.out hg3)
             clear ho3 hg3))
        all_goals
          obtain ⟨g3, c3, hv3, _⟩ := own_form HO3.out (by omega)
          subst hv3
          go_wp2
          go_ret
          have ho3 := HO3.out
          rw [put_row HQ.out (by omega) _ (by first | rfl | (rw [List.drop_of_length_le (by rw [HQ.out]; omega)]; simp [vi])), ← HP.out] at ho3
          exact ret_putS rfl (by rw [HP.out, List.length_append, List.length_cons, List.length_take, List.length_drop, HQ.out]; omega) (Go.Joins.ownsRow_le ho3 hB) (Below.mono HB3.out hB)
end Go.Proofs.Ytfbanjmooknafaa
