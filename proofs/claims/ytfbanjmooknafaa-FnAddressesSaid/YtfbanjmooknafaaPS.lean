/-
  Contracts of the reference's ParseFrameText, and the walk of its law.
-/
import Derived.Test.YtfbanjmooknafaaPF
import Derived.Deep.CutRange
import Derived.Deep.DeepCutAuto
namespace Go.Proofs.Ytfbanjmooknafaa
open Go.RowKit
set_option linter.unusedSimpArgs false
set_option linter.unusedVariables false
set_option maxRecDepth 100000

theorem c_l5Index (x : List UInt8) (g : Nat) (w : World) (hk : KWs w g) (hx : x.length ≤ 9223372036854775807) : Calls Try.prog 215 #[.slice (some ⟨g, 0, none⟩) 5 5, .string (bs x)] w fun e w' => e = .returned (.int .i64 (P.kIdx x)) ∧ w = w' := by
  have HK := Lib.hid hk
  clear hk hx
  go_enter Try.func215, Try.ntmps215
  go_wp2
  go_loop [5] (fun i => ∃ k : Nat, 1 ≤ k ∧ k ≤ 5 ∧ i = .int .i64 k ∧ ∀ j, 1 ≤ j → j < k → P.kW j ≠ x) (fun i => 5 - (intOf i).toNat)
  case atStart => exact ⟨1, by omega, by omega, rfl, fun j h1 h2 => absurd h2 (by omega)⟩
  case round =>
    obtain ⟨k, h1, h5, rfl, hno⟩ := hrel
    have HNO := Lib.hid hno
    clear hno
    by_cases hlt : k < 5
    · have hck := HK.out k hlt
      by_cases hx : P.kW k = x
      · have e1 := cmp_eq (a := bs (P.kW k)) (b := bs x) hx
        have HR := Lib.hid (show P.kIdx x = k from P.kIdx_first h1 (by omega) hx.symm)
        clear hx
        go_wp2
        go_ret
        exact ⟨ret_int (by rw [HR.out]), rfl⟩
      · have e1 := cmp_ne (a := bs (P.kW k)) (b := bs x) hx
        have HN := Lib.hid (show ∀ j, 1 ≤ j → j < k + 1 → P.kW j ≠ x from fun j h2 h3 => by
          rcases Nat.lt_or_ge j k with h | h
          · exact HNO.out j h2 h
          · have : j = k := by omega
            subst this; exact hx)
        clear hx
        go_wp2
        go_round
        case rel => exact ⟨k + 1, by omega, by omega, by go_num, HN.out⟩
        case measure => simp [intOf]; omega
    · have HR := Lib.hid (show P.kIdx x = 0 by
        rcases Nat.eq_zero_or_pos (P.kIdx x) with h | h
        · exact h
        · have h4 := P.kIdx_lt x
          exact absurd (P.kIdx_kW (by omega)) (HNO.out _ h (by omega)))
      go_wp2
      go_ret
      exact ⟨ret_int (by rw [HR.out]; rfl), rfl⟩
theorem pf_parts {l x0 x1 x2 : List UInt8} (hw : P.spl 32 l = [x0, x1, x2]) : l.length = x0.length + x1.length + x2.length + 2 := by
  have h := P.pf_three (l := l) (by rw [hw]; rfl)
  rw [P.pfW_0 hw, P.pfW_1 hw, P.pfW_2 hw] at h
  rw [h]
  simp only [List.length_append, List.length_singleton]
  omega
theorem pf_bad16 {l x0 x1 x2 : List UInt8} (hw : P.spl 32 l = [x0, x1, x2]) (u1 : P.unhexOk x1 = true) (h : (bhL x1).length ≠ 16) : P.pfOk l = false := by
  refine P.pf_bad3 hw (.inl fun h4 => h ?_)
  unfold bhL; rw [u1, if_pos rfl, P.unhexL_len, h4]
theorem pf_bad24 {l x0 x1 x2 : List UInt8} (hw : P.spl 32 l = [x0, x1, x2]) (u2 : P.unhexOk x2 = true) (h : (bhL x2).length ≠ 24) : P.pfOk l = false := by
  refine P.pf_bad3 hw (.inr (.inl fun h4 => h ?_))
  unfold bhL; rw [u2, if_pos rfl, P.unhexL_len, h4]
theorem kws_alloc {w : World} {g : Nat} (h : KWs w g) (o : Obj) : KWs (w.alloc o) g := h.below ((Below.refl _ _).alloc (Nat.le_refl _) o)
/-- what the literal of a frame leaves -/
def PfCut (w : World) (g k n1 n2 : Nat) (v : Value) (wx : World) : Prop := ∃ gf, v = .pointer (some ⟨gf, 0, none⟩) ∧ Box wx gf k n1 n2 ∧ Box wx w.heap.size 0 0 0 ∧ Below w.heap.size w wx
theorem PfCut.mk {w wx : World} {g k n1 n2 gf : Nat} (h : Box wx gf k n1 n2) (h2 : Box wx w.heap.size 0 0 0) (h3 : Below w.heap.size w wx) : PfCut w g k n1 n2 (.pointer (some ⟨gf, 0, none⟩)) wx := ⟨gf, rfl, h, h2, h3⟩
set_option maxHeartbeats 8000000 in
theorem c_l5Parse (s : ByteArray) (w : World) (hs : s.size ≤ 2097152) : Calls Try.prog 206 #[.string s] w fun e w' => e = .returned (.tuple #[fr (P.pfA (B s)) (P.pfB (B s)) (P.pfC (B s)), .bool (P.pfOk (B s))]) ∧ Below w.heap.size w w' := by
  have hl := B_len s
  obtain ⟨W0, hW0⟩ : ∃ W0, w.alloc (.cells #[.int .i64 0, .int .i64 0, .int .i64 0] 57) = W0 := ⟨_, rfl⟩
  have hB0 : Below w.heap.size w W0 := by rw [← hW0]; exact (Below.refl _ _).alloc (Nat.le_refl _) _
  have HX0 := Lib.hid (show Box W0 w.heap.size 0 0 0 by rw [← hW0]; exact Box.new w 0 0 0 _)
  go_enter Try.func206, Try.ntmps206
  go_wp2_with fail
  clear hW0
  refine (c_l1Split s 32 _ hs).mono ?_
  rintro e w1 ⟨g, cap, rfl, hown, hb1⟩
  rw [List.length_map] at hown ⊢
  have HOW := Lib.hid hown
  have HX1 := Lib.hid (HX0.out.below hb1)
  have hB1 := hB0.trans (hb1.mono hB0.size)
  clear hown hb1
  by_cases h30 : 30 < s.size
  · obtain ⟨n, hn⟩ : ∃ n, (P.spl 32 (B s)).length = n := ⟨_, rfl⟩
    rw [hn]
    have HF := Lib.hid (show P.pfOk (B s) = false by
      rw [Bool.eq_false_iff]; intro e
      have := P.pf_len e
      omega)
    clear hn
    obtain ⟨⟨k0, k1, k2⟩, f0, f1, f2⟩ := HX1.out
    go_wp2
    exact bodyPost_ret (v := .tuple #[.agg #[.int .i64 0, .int .i64 0, .int .i64 0], .bool false]) (by simp [results, Try.results206, go_sem, k0, k1, k2]) rfl ⟨pf_ret_no HF.out, ((hB1.setCell (Nat.le_refl _) _).setCell (Nat.le_refl _) _).setCell (Nat.le_refl _) _⟩
  · by_cases h3 : (P.spl 32 (B s)).length = 3
    · obtain ⟨x0, x1, x2, hw⟩ := P.three_list h3
      have HW := Lib.hid hw
      have hpt := pf_parts hw
      rw [hw] at HOW ⊢
      have hown := HOW.out
      have hcw0 : w1.cell? ⟨g, 0, none⟩ = some (.string (bs x0)) := hown.cellAt 0 (by simp)
      have hcw1 : w1.cell? ⟨g, 1, none⟩ = some (.string (bs x1)) := hown.cellAt 1 (by simp)
      have hcw2 : w1.cell? ⟨g, 2, none⟩ = some (.string (bs x2)) := hown.cellAt 2 (by simp)
      have HM1 := Lib.hid (show (bs x1).size ≤ maxLen by rw [bs_size]; unfold maxLen; omega)
      have HM2 := Lib.hid (show (bs x2).size ≤ maxLen by rw [bs_size]; unfold maxLen; omega)
      have hgl := World.block_lt_of_cell? w1 _ hcw0
      have hx030 : x0.length ≤ 30 := by omega
      clear hw h3 hown HOW hpt
      go_wp2_with fail
      refine (c_l2FromHex (bs x1) _ HM1.out).mono ?_
      rintro e w2 ⟨rfl, hq2⟩
      have hb2 := hq2.below w1.heap.size
      rw [B_bs]
      have hcv0 := (hb2.cell (p := ⟨g, 0, none⟩) hgl).trans hcw0
      have hcv2 := (hb2.cell (p := ⟨g, 2, none⟩) hgl).trans hcw2
      have HX2 := Lib.hid (HX1.out.below hb2)
      have hB2 := hB1.trans (hb2.mono hB1.size)
      have hgl2 : g < w2.heap.size := Nat.lt_of_lt_of_le hgl hb2.size
      clear hcw0 hcw1 hcw2 hb2 hq2
      obtain ⟨y1, hy1⟩ : ∃ y1, bhL x1 = y1 := ⟨_, rfl⟩
      obtain ⟨u1, hu1⟩ : ∃ u1, P.unhexOk x1 = u1 := ⟨_, rfl⟩
      rw [hy1, hu1]
      have HY1 := Lib.hid hy1
      have HU1 := Lib.hid hu1
      clear hy1 hu1
      go_wp2_with fail
      refine (c_l2FromHex (bs x2) _ HM2.out).mono ?_
      rintro e w3 ⟨rfl, hq3⟩
      have hb3 := hq3.below w2.heap.size
      rw [B_bs]
      have hcu0 := (hb3.cell (p := ⟨g, 0, none⟩) hgl2).trans hcv0
      have HX3 := Lib.hid (HX2.out.below hb3)
      have hB3 := hB2.trans (hb3.mono hB2.size)
      have hgl3 : g < w3.heap.size := Nat.lt_of_lt_of_le hgl2 hb3.size
      clear hcv0 hcv2 hb3 hq3
      obtain ⟨y2, hy2⟩ : ∃ y2, bhL x2 = y2 := ⟨_, rfl⟩
      obtain ⟨u2, hu2⟩ : ∃ u2, P.unhexOk x2 = u2 := ⟨_, rfl⟩
      rw [hy2, hu2]
      have HY2 := Lib.hid hy2
      have HU2 := Lib.hid hu2
      clear hy2 hu2
      cases u1 with
      | false =>
        have HF := Lib.hid (P.pf_bad3 HW.out (.inr (.inr (.inl HU1.out))))
        obtain ⟨⟨k0, k1, k2⟩, f0, f1, f2⟩ := HX3.out
        go_wp2
        exact bodyPost_ret (v := .tuple #[.agg #[.int .i64 0, .int .i64 0, .int .i64 0], .bool false]) (by simp [results, Try.results206, go_sem, k0, k1, k2]) rfl ⟨pf_ret_no HF.out, ((hB3.setCell (Nat.le_refl _) _).setCell (Nat.le_refl _) _).setCell (Nat.le_refl _) _⟩
      | true =>
        cases u2 with
        | false =>
          have HF := Lib.hid (P.pf_bad3 HW.out (.inr (.inr (.inr HU2.out))))
          obtain ⟨⟨k0, k1, k2⟩, f0, f1, f2⟩ := HX3.out
          go_wp2
          exact bodyPost_ret (v := .tuple #[.agg #[.int .i64 0, .int .i64 0, .int .i64 0], .bool false]) (by simp [results, Try.results206, go_sem, k0, k1, k2]) rfl ⟨pf_ret_no HF.out, ((hB3.setCell (Nat.le_refl _) _).setCell (Nat.le_refl _) _).setCell (Nat.le_refl _) _⟩
        | true =>
          have hz1 := bs_size y1
          have hz2 := bs_size y2
          by_cases h16 : y1.length = 16
          · by_cases h24 : y2.length = 24
            · have hq1 : (((bs y1).size : Int) != 16) = false := by rw [bne_eq_false_iff_eq]; omega
              have hq2 : (((bs y2).size : Int) != 24) = false := by rw [bne_eq_false_iff_eq]; omega
              have HN1 := Lib.hid (show y1 = P.unhexL x1 by rw [← HY1.out]; unfold bhL; rw [HU1.out]; rfl)
              have HN2 := Lib.hid (show y2 = P.unhexL x2 by rw [← HY2.out]; unfold bhL; rw [HU2.out]; rfl)
              have HC1 := Lib.hid (fun W => c_l2Number (bs y1) W (by omega) (by rw [B_bs, HN1.out]; exact P.unhexL_bits _))
              have HC2 := Lib.hid (fun W => c_l2Number (bs y2) W (by omega) (by rw [B_bs, HN2.out]; exact P.unhexL_bits _))
              have HX14 := Lib.hid (show x1.length = 4 by have := HN1.out; rw [this, P.unhexL_len] at h16; omega)
              have HX26 := Lib.hid (show x2.length = 6 by have := HN2.out; rw [this, P.unhexL_len] at h24; omega)
              obtain ⟨n1, hn1⟩ : ∃ n1, P.numL y1 = n1 := ⟨_, rfl⟩
              obtain ⟨n2, hn2⟩ : ∃ n2, P.numL y2 = n2 := ⟨_, rfl⟩
              have HQ1 := Lib.hid (show P.numL (P.unhexL x1) = n1 by rw [← HN1.out]; exact hn1)
              have HQ2 := Lib.hid (show P.numL (P.unhexL x2) = n2 by rw [← HN2.out]; exact hn2)
              have HE1 := Lib.hid (show P.numL (B (bs y1)) = n1 from hn1)
              have HE2 := Lib.hid (show P.numL (B (bs y2)) = n2 from hn2)
              obtain ⟨k, hkx⟩ : ∃ k, P.kIdx x0 = k := ⟨_, rfl⟩
              have HKX := Lib.hid hkx
              clear hn1 hn2 hz1 hz2 h16 h24 hkx
              have HCU0 := Lib.hid hcu0
              clear hcu0
              go_upto_region 8 with fail
              go_cut [9] (fun v9 wx => PfCut w g k n1 n2 v9 wx)
              case first =>
                refine wp_region_held_drew (S := fun w' => w'.cell? ⟨g, 0, none⟩ = some (.string (bs x0))) (by kernel_rfl) HCU0.out (fun hS => ?_)
                refine wpAnyH_take (i := 1) (v := ?v1) rfl (by kernel_rfl) (by kernel_rfl) (by kernel_rfl) (fun _ _ _ h => h) (Or.inl ⟨by rfl, ?y1⟩) (by assumption) ?r1
                case y1 => (intro wq hSw; (try dsimp only at hSw); go_simp; (try with_reducible rfl))
                try simp only [Act.put, List.setIfInBounds_toArray, List.set_cons_zero, List.set_cons_succ]
                refine wpAnyH_take (i := 2) (v := ?v2) rfl (by kernel_rfl) (by kernel_rfl) (by kernel_rfl) (fun _ _ _ h => h) (Or.inl ⟨by rfl, ?y2⟩) (by assumption) ?r2
                case y2 => (intro wq hSw; (try dsimp only at hSw); go_simp; (try with_reducible rfl))
                try simp only [Act.put, List.setIfInBounds_toArray, List.set_cons_zero, List.set_cons_succ]
                refine wpAnyH_take (i := 3) (v := ?v3) rfl (by kernel_rfl) (by kernel_rfl) (by kernel_rfl) (fun _ _ _ h => h) (Or.inl ⟨by rfl, ?y3⟩) (by assumption) ?r3
                case y3 => (intro wq hSw; (try dsimp only at hSw); go_simp; (try with_reducible rfl))
                try simp only [Act.put, List.setIfInBounds_toArray, List.set_cons_zero, List.set_cons_succ]
                refine wpAnyH_take (i := 5) (v := ?v4) rfl (by kernel_rfl) (by kernel_rfl) (by kernel_rfl) (fun _ _ _ h => h) (Or.inl ⟨by rfl, ?y4⟩) (by assumption) ?r4
                case y4 => (intro wq hSw; (try dsimp only at hSw); go_simp; (try with_reducible rfl))
                try simp only [Act.put, List.setIfInBounds_toArray, List.set_cons_zero, List.set_cons_succ]
                refine wpAnyH_take (i := 7) (v := ?v5) rfl (by kernel_rfl) (by kernel_rfl) (by kernel_rfl) (fun _ _ _ h => h) (Or.inl ⟨by rfl, ?y5⟩) (by assumption) ?r5
                case y5 => (intro wq hSw; (try dsimp only at hSw); go_simp; (try with_reducible rfl))
                try simp only [Act.put, List.setIfInBounds_toArray, List.set_cons_zero, List.set_cons_succ]
                have HX := Lib.hid (show Box w3.drew w.heap.size 0 0 0 from HX3.out)
                have hB : Below w.heap.size w w3.drew := hB3.drew
                generalize w3.drew = W at *
                refine wpAnyH_ready (rs := [0, 10]) (by kernel_rfl) (by simp) ?_
                refine AllReadyH.cons rfl (fun K hK => ?_) (AllReadyH.cons rfl (fun K hK => ?_) AllReadyH.nil)
                · go_simp
                  refine (c_l5Words _).mono ?_
                  rintro e V ⟨rfl, hkw, hb⟩
                  obtain ⟨gk, hgk⟩ : ∃ gk, W.heap.size = gk := ⟨_, rfl⟩
                  rw [hgk] at hkw ⊢
                  refine hK.out _ _ ((hb.cell (p := ⟨g, 0, none⟩) (World.block_lt_of_cell? W _ hS)).trans hS) (fun hS2 => ?_)
                  replace hS := hS2
                  replace HX := Lib.hid (HX.out.below hb)
                  replace hB := hB.trans (hb.mono hB.size)
                  clear hgk hb
                  clear hK K
                  try simp only [Act.put, List.setIfInBounds_toArray, List.set_cons_zero, List.set_cons_succ]
                  refine wpAnyH_ready (rs := [4, 10]) (by kernel_rfl) (by simp) ?_
                  refine AllReadyH.cons rfl (fun K hK => ?_) (AllReadyH.cons rfl (fun K hK => ?_) AllReadyH.nil)
                  · go_simp
                    refine (c_l5Index x0 gk _ hkw (by omega)).mono ?_
                    rintro e w' ⟨rfl, rfl⟩
                    rw [HKX.out]
                    refine hK.out _ _ hS (fun hS2 => ?_)
                    clear hK K
                    try simp only [Act.put, List.setIfInBounds_toArray, List.set_cons_zero, List.set_cons_succ]
                    refine wpAnyH_ready (rs := [6, 10]) (by kernel_rfl) (by simp) ?_
                    refine AllReadyH.cons rfl (fun K hK => ?_) (AllReadyH.cons rfl (fun K hK => ?_) AllReadyH.nil)
                    · go_simp
                      refine (HC1.out _).mono ?_
                      rintro e w' ⟨rfl, rfl⟩
                      rw [HE1.out]
                      refine hK.out _ _ hS (fun hS2 => ?_)
                      clear hK K
                      try simp only [Act.put, List.setIfInBounds_toArray, List.set_cons_zero, List.set_cons_succ]
                      refine wpAnyH_ready (rs := [8, 10]) (by kernel_rfl) (by simp) ?_
                      refine AllReadyH.cons rfl (fun K hK => ?_) (AllReadyH.cons rfl (fun K hK => ?_) AllReadyH.nil)
                      · go_simp
                        refine (HC2.out _).mono ?_
                        rintro e w' ⟨rfl, rfl⟩
                        rw [HE2.out]
                        refine hK.out _ _ hS (fun hS2 => ?_)
                        clear hK K
                        try simp only [Act.put, List.setIfInBounds_toArray, List.set_cons_zero, List.set_cons_succ]
                        refine wpAnyH_take (i := 9) (v := ?v6) rfl (by kernel_rfl) (by kernel_rfl) (by kernel_rfl) (fun _ _ _ h => h) (Or.inl ⟨by rfl, ?y6⟩) (by assumption) ?r6
                        case y6 => (intro wq hSw; (try dsimp only at hSw); go_simp; (try with_reducible rfl))
                        try simp only [Act.put, List.setIfInBounds_toArray, List.set_cons_zero, List.set_cons_succ]
                        refine wpAnyH_ready (rs := [10]) (by kernel_rfl) (by simp) ?_
                        refine AllReadyH.cons rfl (fun K hK => ?_) AllReadyH.nil
                        go_simp
                        have hVA : Below V.heap.size V (V.alloc (.cells #[.int .i64 0, .int .i64 0, .int .i64 0] 57)) := (Below.refl _ _).alloc (Nat.le_refl _) _
                        have HG := Lib.hid (Box.new V 0 0 0 57)
                        have hgl : w.heap.size < V.heap.size := World.block_lt_of_cell? V _ HX.out.1.1
                        have hgg : g < V.heap.size := World.block_lt_of_cell? V _ hS
                        refine hK.out _ _ (cell_alloc_keep hS) (fun hS2 => ?_)
                        replace hS := hS2
                        replace HX := Lib.hid (HX.out.below hVA)
                        have hwl := hB.size
                        replace hB := hB.trans (hVA.mono hB.size)
                        generalize V.alloc (.cells #[.int .i64 0, .int .i64 0, .int .i64 0] 57) = VA at *
                        clear hK K
                        try simp only [Act.put, List.setIfInBounds_toArray, List.set_cons_zero, List.set_cons_succ]
                        have hG := HG.out
                        obtain ⟨⟨q0, q1, q2⟩, p0, p1, p2⟩ := hG
                        refine wpAnyH_ready (rs := [11]) (by kernel_rfl) (by simp) ?_
                        refine AllReadyH.cons rfl (fun K hK => ?_) AllReadyH.nil
                        go_simp
                        clear q0 q1 q2 p0 p1 p2
                        refine hK.out _ _ (cell_set3 hS (by omega)) (fun hS2 => ?_)
                        clear hK K
                        try simp only [Act.put, List.setIfInBounds_toArray, List.set_cons_zero, List.set_cons_succ]
                        refine wpAnyH_done (by kernel_rfl) ?_ _
                        go_wp2_with fail
                        go_meet
                        exact PfCut.mk (Box.set3 HG.out) (Box.set3_other HX.out (by omega)) (((hB.setCell hwl _).setCell hwl _).setCell hwl _)
                      · go_simp
                        have hVA : Below V.heap.size V (V.alloc (.cells #[.int .i64 0, .int .i64 0, .int .i64 0] 57)) := (Below.refl _ _).alloc (Nat.le_refl _) _
                        have HG := Lib.hid (Box.new V 0 0 0 57)
                        have hgl : w.heap.size < V.heap.size := World.block_lt_of_cell? V _ HX.out.1.1
                        have hgg : g < V.heap.size := World.block_lt_of_cell? V _ hS
                        refine hK.out _ _ (cell_alloc_keep hS) (fun hS2 => ?_)
                        replace hS := hS2
                        replace HX := Lib.hid (HX.out.below hVA)
                        have hwl := hB.size
                        replace hB := hB.trans (hVA.mono hB.size)
                        generalize V.alloc (.cells #[.int .i64 0, .int .i64 0, .int .i64 0] 57) = VA at *
                        clear hK K
                        try simp only [Act.put, List.setIfInBounds_toArray, List.set_cons_zero, List.set_cons_succ]
                        refine wpAnyH_ready (rs := [8]) (by kernel_rfl) (by simp) ?_
                        refine AllReadyH.cons rfl (fun K hK => ?_) AllReadyH.nil
                        go_simp
                        refine (HC2.out _).mono ?_
                        rintro e w' ⟨rfl, rfl⟩
                        rw [HE2.out]
                        refine hK.out _ _ hS (fun hS2 => ?_)
                        clear hK K
                        try simp only [Act.put, List.setIfInBounds_toArray, List.set_cons_zero, List.set_cons_succ]
                        refine wpAnyH_take (i := 9) (v := ?v7) rfl (by kernel_rfl) (by kernel_rfl) (by kernel_rfl) (fun _ _ _ h => h) (Or.inl ⟨by rfl, ?y7⟩) (by assumption) ?r7
                        case y7 => (intro wq hSw; (try dsimp only at hSw); go_simp; (try with_reducible rfl))
                        try simp only [Act.put, List.setIfInBounds_toArray, List.set_cons_zero, List.set_cons_succ]
                        have hG := HG.out
                        obtain ⟨⟨q0, q1, q2⟩, p0, p1, p2⟩ := hG
                        refine wpAnyH_ready (rs := [11]) (by kernel_rfl) (by simp) ?_
                        refine AllReadyH.cons rfl (fun K hK => ?_) AllReadyH.nil
                        go_simp
                        clear q0 q1 q2 p0 p1 p2
                        refine hK.out _ _ (cell_set3 hS (by omega)) (fun hS2 => ?_)
                        clear hK K
                        try simp only [Act.put, List.setIfInBounds_toArray, List.set_cons_zero, List.set_cons_succ]
                        refine wpAnyH_done (by kernel_rfl) ?_ _
                        go_wp2_with fail
                        go_meet
                        exact PfCut.mk (Box.set3 HG.out) (Box.set3_other HX.out (by omega)) (((hB.setCell hwl _).setCell hwl _).setCell hwl _)
                    · go_simp
                      have hVA : Below V.heap.size V (V.alloc (.cells #[.int .i64 0, .int .i64 0, .int .i64 0] 57)) := (Below.refl _ _).alloc (Nat.le_refl _) _
                      have HG := Lib.hid (Box.new V 0 0 0 57)
                      have hgl : w.heap.size < V.heap.size := World.block_lt_of_cell? V _ HX.out.1.1
                      have hgg : g < V.heap.size := World.block_lt_of_cell? V _ hS
                      refine hK.out _ _ (cell_alloc_keep hS) (fun hS2 => ?_)
                      replace hS := hS2
                      replace HX := Lib.hid (HX.out.below hVA)
                      have hwl := hB.size
                      replace hB := hB.trans (hVA.mono hB.size)
                      generalize V.alloc (.cells #[.int .i64 0, .int .i64 0, .int .i64 0] 57) = VA at *
                      clear hK K
                      try simp only [Act.put, List.setIfInBounds_toArray, List.set_cons_zero, List.set_cons_succ]
                      refine wpAnyH_ready (rs := [6]) (by kernel_rfl) (by simp) ?_
                      refine AllReadyH.cons rfl (fun K hK => ?_) AllReadyH.nil
                      go_simp
                      refine (HC1.out _).mono ?_
                      rintro e w' ⟨rfl, rfl⟩
                      rw [HE1.out]
                      refine hK.out _ _ hS (fun hS2 => ?_)
                      clear hK K
                      try simp only [Act.put, List.setIfInBounds_toArray, List.set_cons_zero, List.set_cons_succ]
                      refine wpAnyH_ready (rs := [8]) (by kernel_rfl) (by simp) ?_
                      refine AllReadyH.cons rfl (fun K hK => ?_) AllReadyH.nil
                      go_simp
                      refine (HC2.out _).mono ?_
                      rintro e w' ⟨rfl, rfl⟩
                      rw [HE2.out]
                      refine hK.out _ _ hS (fun hS2 => ?_)
                      clear hK K
                      try simp only [Act.put, List.setIfInBounds_toArray, List.set_cons_zero, List.set_cons_succ]
                      refine wpAnyH_take (i := 9) (v := ?v8) rfl (by kernel_rfl) (by kernel_rfl) (by kernel_rfl) (fun _ _ _ h => h) (Or.inl ⟨by rfl, ?y8⟩) (by assumption) ?r8
                      case y8 => (intro wq hSw; (try dsimp only at hSw); go_simp; (try with_reducible rfl))
                      try simp only [Act.put, List.setIfInBounds_toArray, List.set_cons_zero, List.set_cons_succ]
                      have hG := HG.out
                      obtain ⟨⟨q0, q1, q2⟩, p0, p1, p2⟩ := hG
                      refine wpAnyH_ready (rs := [11]) (by kernel_rfl) (by simp) ?_
                      refine AllReadyH.cons rfl (fun K hK => ?_) AllReadyH.nil
                      go_simp
                      clear q0 q1 q2 p0 p1 p2
                      refine hK.out _ _ (cell_set3 hS (by omega)) (fun hS2 => ?_)
                      clear hK K
                      try simp only [Act.put, List.setIfInBounds_toArray, List.set_cons_zero, List.set_cons_succ]
                      refine wpAnyH_done (by kernel_rfl) ?_ _
                      go_wp2_with fail
                      go_meet
                      exact PfCut.mk (Box.set3 HG.out) (Box.set3_other HX.out (by omega)) (((hB.setCell hwl _).setCell hwl _).setCell hwl _)
                  · go_simp
                    have hVA : Below V.heap.size V (V.alloc (.cells #[.int .i64 0, .int .i64 0, .int .i64 0] 57)) := (Below.refl _ _).alloc (Nat.le_refl _) _
                    have HG := Lib.hid (Box.new V 0 0 0 57)
                    have hgl : w.heap.size < V.heap.size := World.block_lt_of_cell? V _ HX.out.1.1
                    have hgg : g < V.heap.size := World.block_lt_of_cell? V _ hS
                    refine hK.out _ _ (cell_alloc_keep hS) (fun hS2 => ?_)
                    replace hS := hS2
                    replace HX := Lib.hid (HX.out.below hVA)
                    have hwl := hB.size
                    replace hB := hB.trans (hVA.mono hB.size)
                    generalize V.alloc (.cells #[.int .i64 0, .int .i64 0, .int .i64 0] 57) = VA at *
                    clear hK K
                    try simp only [Act.put, List.setIfInBounds_toArray, List.set_cons_zero, List.set_cons_succ]
                    replace hkw := hkw.below hVA
                    refine wpAnyH_ready (rs := [4]) (by kernel_rfl) (by simp) ?_
                    refine AllReadyH.cons rfl (fun K hK => ?_) AllReadyH.nil
                    go_simp
                    refine (c_l5Index x0 gk _ hkw (by omega)).mono ?_
                    rintro e w' ⟨rfl, rfl⟩
                    rw [HKX.out]
                    refine hK.out _ _ hS (fun hS2 => ?_)
                    clear hK K
                    try simp only [Act.put, List.setIfInBounds_toArray, List.set_cons_zero, List.set_cons_succ]
                    refine wpAnyH_ready (rs := [6]) (by kernel_rfl) (by simp) ?_
                    refine AllReadyH.cons rfl (fun K hK => ?_) AllReadyH.nil
                    go_simp
                    refine (HC1.out _).mono ?_
                    rintro e w' ⟨rfl, rfl⟩
                    rw [HE1.out]
                    refine hK.out _ _ hS (fun hS2 => ?_)
                    clear hK K
                    try simp only [Act.put, List.setIfInBounds_toArray, List.set_cons_zero, List.set_cons_succ]
                    refine wpAnyH_ready (rs := [8]) (by kernel_rfl) (by simp) ?_
                    refine AllReadyH.cons rfl (fun K hK => ?_) AllReadyH.nil
                    go_simp
                    refine (HC2.out _).mono ?_
                    rintro e w' ⟨rfl, rfl⟩
                    rw [HE2.out]
                    refine hK.out _ _ hS (fun hS2 => ?_)
                    clear hK K
                    try simp only [Act.put, List.setIfInBounds_toArray, List.set_cons_zero, List.set_cons_succ]
                    refine wpAnyH_take (i := 9) (v := ?v9) rfl (by kernel_rfl) (by kernel_rfl) (by kernel_rfl) (fun _ _ _ h => h) (Or.inl ⟨by rfl, ?y9⟩) (by assumption) ?r9
                    case y9 => (intro wq hSw; (try dsimp only at hSw); go_simp; (try with_reducible rfl))
                    try simp only [Act.put, List.setIfInBounds_toArray, List.set_cons_zero, List.set_cons_succ]
                    have hG := HG.out
                    obtain ⟨⟨q0, q1, q2⟩, p0, p1, p2⟩ := hG
                    refine wpAnyH_ready (rs := [11]) (by kernel_rfl) (by simp) ?_
                    refine AllReadyH.cons rfl (fun K hK => ?_) AllReadyH.nil
                    go_simp
                    clear q0 q1 q2 p0 p1 p2
                    refine hK.out _ _ (cell_set3 hS (by omega)) (fun hS2 => ?_)
                    clear hK K
                    try simp only [Act.put, List.setIfInBounds_toArray, List.set_cons_zero, List.set_cons_succ]
                    refine wpAnyH_done (by kernel_rfl) ?_ _
                    go_wp2_with fail
                    go_meet
                    exact PfCut.mk (Box.set3 HG.out) (Box.set3_other HX.out (by omega)) (((hB.setCell hwl _).setCell hwl _).setCell hwl _)
                · go_simp
                  have hVA : Below W.heap.size W (W.alloc (.cells #[.int .i64 0, .int .i64 0, .int .i64 0] 57)) := (Below.refl _ _).alloc (Nat.le_refl _) _
                  have HG := Lib.hid (Box.new W 0 0 0 57)
                  have hgl : w.heap.size < W.heap.size := World.block_lt_of_cell? W _ HX.out.1.1
                  have hgg : g < W.heap.size := World.block_lt_of_cell? W _ hS
                  refine hK.out _ _ (cell_alloc_keep hS) (fun hS2 => ?_)
                  replace hS := hS2
                  replace HX := Lib.hid (HX.out.below hVA)
                  have hwl := hB.size
                  replace hB := hB.trans (hVA.mono hB.size)
                  generalize W.alloc (.cells #[.int .i64 0, .int .i64 0, .int .i64 0] 57) = VA at *
                  clear hK K
                  try simp only [Act.put, List.setIfInBounds_toArray, List.set_cons_zero, List.set_cons_succ]
                  refine wpAnyH_ready (rs := [0]) (by kernel_rfl) (by simp) ?_
                  refine AllReadyH.cons rfl (fun K hK => ?_) AllReadyH.nil
                  go_simp
                  refine (c_l5Words _).mono ?_
                  rintro e V ⟨rfl, hkw, hb⟩
                  obtain ⟨gk, hgk⟩ : ∃ gk, VA.heap.size = gk := ⟨_, rfl⟩
                  rw [hgk] at hkw ⊢
                  refine hK.out _ _ ((hb.cell (p := ⟨g, 0, none⟩) (World.block_lt_of_cell? VA _ hS)).trans hS) (fun hS2 => ?_)
                  replace hS := hS2
                  replace HX := Lib.hid (HX.out.below hb)
                  replace HG := Lib.hid (HG.out.below hb)
                  replace hB := hB.trans (hb.mono hB.size)
                  clear hgk hb
                  clear hK K
                  try simp only [Act.put, List.setIfInBounds_toArray, List.set_cons_zero, List.set_cons_succ]
                  refine wpAnyH_ready (rs := [4]) (by kernel_rfl) (by simp) ?_
                  refine AllReadyH.cons rfl (fun K hK => ?_) AllReadyH.nil
                  go_simp
                  refine (c_l5Index x0 gk _ hkw (by omega)).mono ?_
                  rintro e w' ⟨rfl, rfl⟩
                  rw [HKX.out]
                  refine hK.out _ _ hS (fun hS2 => ?_)
                  clear hK K
                  try simp only [Act.put, List.setIfInBounds_toArray, List.set_cons_zero, List.set_cons_succ]
                  refine wpAnyH_ready (rs := [6]) (by kernel_rfl) (by simp) ?_
                  refine AllReadyH.cons rfl (fun K hK => ?_) AllReadyH.nil
                  go_simp
                  refine (HC1.out _).mono ?_
                  rintro e w' ⟨rfl, rfl⟩
                  rw [HE1.out]
                  refine hK.out _ _ hS (fun hS2 => ?_)
                  clear hK K
                  try simp only [Act.put, List.setIfInBounds_toArray, List.set_cons_zero, List.set_cons_succ]
                  refine wpAnyH_ready (rs := [8]) (by kernel_rfl) (by simp) ?_
                  refine AllReadyH.cons rfl (fun K hK => ?_) AllReadyH.nil
                  go_simp
                  refine (HC2.out _).mono ?_
                  rintro e w' ⟨rfl, rfl⟩
                  rw [HE2.out]
                  refine hK.out _ _ hS (fun hS2 => ?_)
                  clear hK K
                  try simp only [Act.put, List.setIfInBounds_toArray, List.set_cons_zero, List.set_cons_succ]
                  refine wpAnyH_take (i := 9) (v := ?v10) rfl (by kernel_rfl) (by kernel_rfl) (by kernel_rfl) (fun _ _ _ h => h) (Or.inl ⟨by rfl, ?y10⟩) (by assumption) ?r10
                  case y10 => (intro wq hSw; (try dsimp only at hSw); go_simp; (try with_reducible rfl))
                  try simp only [Act.put, List.setIfInBounds_toArray, List.set_cons_zero, List.set_cons_succ]
                  have hG := HG.out
                  obtain ⟨⟨q0, q1, q2⟩, p0, p1, p2⟩ := hG
                  refine wpAnyH_ready (rs := [11]) (by kernel_rfl) (by simp) ?_
                  refine AllReadyH.cons rfl (fun K hK => ?_) AllReadyH.nil
                  go_simp
                  clear q0 q1 q2 p0 p1 p2
                  refine hK.out _ _ (cell_set3 hS (by omega)) (fun hS2 => ?_)
                  clear hK K
                  try simp only [Act.put, List.setIfInBounds_toArray, List.set_cons_zero, List.set_cons_succ]
                  refine wpAnyH_done (by kernel_rfl) ?_ _
                  go_wp2_with fail
                  go_meet
                  exact PfCut.mk (Box.set3 HG.out) (Box.set3_other HX.out (by omega)) (((hB.setCell hwl _).setCell hwl _).setCell hwl _)
              case rest =>
                obtain ⟨gf, rfl, hbf, hb0, hB⟩ := hcut
                have HBF := Lib.hid hbf
                have HB0 := Lib.hid hb0
                obtain ⟨⟨j0, j1, j2⟩, _, _, _⟩ := hbf
                clear hb0
                cases hfr : frOk k n1 n2 with
                | false =>
                  have HFR := Lib.hid hfr
                  have HF := Lib.hid (show P.pfOk (B s) = false by
                    rw [Bool.eq_false_iff]; intro e
                    obtain ⟨_, _, _, _, h⟩ := (P.pf_iff3 HW.out).1 e
                    rw [HKX.out, HQ1.out, HQ2.out] at h
                    rw [show P.frB k n1 n2 = false from hfr] at h; cases h)
                  clear hfr
                  go_wp2_with fail
                  refine (c_l5Good k n1 n2 _).mono ?_
                  rintro e w6 ⟨rfl, hb6⟩
                  rw [HFR.out]
                  have HX6 := Lib.hid (HB0.out.below hb6)
                  have hB6 := hB.trans (hb6.mono hB.size)
                  clear hb6 j0 j1 j2
                  obtain ⟨⟨k0, k1, k2⟩, f0, f1, f2⟩ := HX6.out
                  go_wp2
                  exact bodyPost_ret (v := .tuple #[.agg #[.int .i64 0, .int .i64 0, .int .i64 0], .bool false]) (by simp [results, Try.results206, go_sem, k0, k1, k2]) rfl ⟨pf_ret_no HF.out, ((hB6.setCell (Nat.le_refl _) _).setCell (Nat.le_refl _) _).setCell (Nat.le_refl _) _⟩
                | true =>
                  have HFR := Lib.hid hfr
                  have hrg := P.frB_iff.1 (show P.frB k n1 n2 = true from hfr)
                  obtain ⟨⟨r1, r2⟩, ⟨r3, r4⟩, r5, r6⟩ := hrg
                  have HY := Lib.hid (show P.pfOk (B s) = true ∧ P.pfA (B s) = k ∧ P.pfB (B s) = n1 ∧ P.pfC (B s) = n2 by
                    have h := P.pf_found HW.out HX14.out HX26.out HU1.out HU2.out (k := k) (by rw [← HKX.out]; exact P.kIdx_kW (by rw [HKX.out]; omega)) (by rw [HQ1.out, HQ2.out]; exact hfr)
                    rw [HQ1.out, HQ2.out] at h; exact h)
                  have hcmp := cmp_eq (a := bs (P.ftR k n1 n2)) (b := s) (by
                    rw [B_bs]
                    have h := P.pf_text HY.out.1
                    unfold P.pfN at h
                    rw [P.pfW_0 HW.out, P.pfW_1 HW.out, P.pfW_2 HW.out, HKX.out, HQ1.out, HQ2.out] at h; exact h)
                  clear hfr
                  go_wp2_with fail
                  refine (c_l5Good k n1 n2 _).mono ?_
                  rintro e w6 ⟨rfl, hb6⟩
                  rw [HFR.out]
                  have HX6 := Lib.hid (HB0.out.below hb6)
                  have HF6 := Lib.hid (HBF.out.below hb6)
                  have hB6 := hB.trans (hb6.mono hB.size)
                  obtain ⟨⟨j0', j1', j2'⟩, _, _, _⟩ := HF6.out
                  clear hb6 j0 j1 j2
                  go_wp2_with fail
                  refine (c_l5Text k n1 n2 _ (by omega) (by omega) (by omega) (by omega)).mono ?_
                  rintro e w7 ⟨rfl, hb7⟩
                  obtain ⟨⟨q0, q1, q2⟩, _, _, _⟩ := HF6.out.below hb7
                  obtain ⟨⟨k0, k1, k2⟩, f0, f1, f2⟩ := HX6.out.below hb7
                  have hB7 := hB6.trans (hb7.mono hB6.size)
                  clear hb7 j0' j1' j2'
                  go_wp2
                  exact bodyPost_ret (v := .tuple #[.agg #[.int .i64 k, .int .i64 n1, .int .i64 n2], .bool true]) (by simp [results, Try.results206, go_sem, k0, k1, k2]) rfl ⟨by rw [HY.out.1, HY.out.2.1, HY.out.2.2.1, HY.out.2.2.2], ((hB7.setCell (Nat.le_refl _) _).setCell (Nat.le_refl _) _).setCell (Nat.le_refl _) _⟩
            · have hq1 : (((bs y1).size : Int) != 16) = false := by rw [bne_eq_false_iff_eq]; omega
              have hq2 : (((bs y2).size : Int) != 24) = true := by rw [bne_iff_ne]; omega
              have HF := Lib.hid (pf_bad24 HW.out HU2.out (by rw [HY2.out]; exact h24))
              clear hz1 hz2 h16 h24
              obtain ⟨⟨k0, k1, k2⟩, f0, f1, f2⟩ := HX3.out
              go_wp2
              exact bodyPost_ret (v := .tuple #[.agg #[.int .i64 0, .int .i64 0, .int .i64 0], .bool false]) (by simp [results, Try.results206, go_sem, k0, k1, k2]) rfl ⟨pf_ret_no HF.out, ((hB3.setCell (Nat.le_refl _) _).setCell (Nat.le_refl _) _).setCell (Nat.le_refl _) _⟩
          · have hq1 : (((bs y1).size : Int) != 16) = true := by rw [bne_iff_ne]; omega
            have HF := Lib.hid (pf_bad16 HW.out HU1.out (by rw [HY1.out]; exact h16))
            clear hz1 hz2 h16
            obtain ⟨⟨k0, k1, k2⟩, f0, f1, f2⟩ := HX3.out
            go_wp2
            exact bodyPost_ret (v := .tuple #[.agg #[.int .i64 0, .int .i64 0, .int .i64 0], .bool false]) (by simp [results, Try.results206, go_sem, k0, k1, k2]) rfl ⟨pf_ret_no HF.out, ((hB3.setCell (Nat.le_refl _) _).setCell (Nat.le_refl _) _).setCell (Nat.le_refl _) _⟩
    · obtain ⟨n, hn⟩ : ∃ n, (P.spl 32 (B s)).length = n := ⟨_, rfl⟩
      rw [hn] at h3 ⊢
      have hq : ((n : Int) != 3) = true := by rw [bne_iff_ne]; omega
      have HF := Lib.hid (show P.pfOk (B s) = false by unfold P.pfOk; rw [hn, decide_eq_false h3]; rfl)
      clear hn h3
      obtain ⟨⟨k0, k1, k2⟩, f0, f1, f2⟩ := HX1.out
      go_wp2
      exact bodyPost_ret (v := .tuple #[.agg #[.int .i64 0, .int .i64 0, .int .i64 0], .bool false]) (by simp [results, Try.results206, go_sem, k0, k1, k2]) rfl ⟨pf_ret_no HF.out, ((hB1.setCell (Nat.le_refl _) _).setCell (Nat.le_refl _) _).setCell (Nat.le_refl _) _⟩

end Go.Proofs.Ytfbanjmooknafaa
