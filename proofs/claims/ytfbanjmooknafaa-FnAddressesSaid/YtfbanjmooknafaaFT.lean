/-
  Contracts of the functions on texts of frames, and the walks of their laws.
-/
import Derived.Test.YtfbanjmooknafaaG
namespace Go.Proofs.Ytfbanjmooknafaa
open Go.RowKit
set_option linter.unusedSimpArgs false
set_option linter.unusedVariables false
set_option maxRecDepth 100000

/-- block g holds the words of the kinds -/
def KWs (w : World) (g : Nat) : Prop := ∀ k, k < 5 → w.cell? ⟨g, k, none⟩ = some (.string (bs (P.kW k)))
theorem KWs.below {w w' : World} {g : Nat} (h : KWs w g) (hb : Below w.heap.size w w') : KWs w' g := fun k hk => by
  have h1 := h k hk
  rw [hb.cell (p := ⟨g, k, none⟩) (World.block_lt_of_cell? w _ h1)]; exact h1
theorem KWs.lt {w : World} {g : Nat} (h : KWs w g) : g < w.heap.size := World.block_lt_of_cell? w _ (h 0 (by omega))
theorem kws_new (w : World) (T : TypeId) : KWs (w.alloc (.cells #[.string ⟨#[]⟩, .string ⟨#[110, 97, 109, 101]⟩, .string ⟨#[112, 111, 115, 105, 116, 105, 111, 110]⟩, .string ⟨#[104, 101, 105, 103, 104, 116]⟩, .string ⟨#[115, 112, 101, 101, 100]⟩] T)) w.heap.size := by
  intro k hk
  have : k = 0 ∨ k = 1 ∨ k = 2 ∨ k = 3 ∨ k = 4 := by omega
  rcases this with rfl | rfl | rfl | rfl | rfl <;> simp <;> rfl
theorem c_kindWords (w : World) : Calls Try.prog 201 #[] w fun e w' => e = .returned (.slice (some ⟨w.heap.size, 0, none⟩) 5 5) ∧ KWs w' w.heap.size ∧ Below w.heap.size w w' := by
  go_enter Try.func201, Try.ntmps201
  go_wp2
  go_ret
  exact ⟨rfl, kws_new _ _, (Below.refl _ _).alloc (Nat.le_refl _) _⟩
theorem c_l5Words (w : World) : Calls Try.prog 213 #[] w fun e w' => e = .returned (.slice (some ⟨w.heap.size, 0, none⟩) 5 5) ∧ KWs w' w.heap.size ∧ Below w.heap.size w w' := by
  go_enter Try.func213, Try.ntmps213
  go_wp2
  go_ret
  exact ⟨rfl, kws_new _ _, (Below.refl _ _).alloc (Nat.le_refl _) _⟩
set_option maxHeartbeats 4000000 in
theorem c_frameText (a b c : Nat) (w : World) (h1 : 1 ≤ a) (h4 : a ≤ 4) (hb1 : b ≤ 65535) (hc1 : c ≤ 16777215) : Calls Try.prog 200 #[fr a b c] w fun e w' => e = .returned (.string (bs (P.ftR a b c))) ∧ Below w.heap.size w w' := by
  unfold fr
  have hkl := P.kW_len a
  have l16 := P.hex16 b
  have l24 := P.hex24 c
  obtain ⟨x1, hx1⟩ : ∃ x1, P.hexL (P.bitsL b 16) = x1 := ⟨_, rfl⟩
  obtain ⟨x2, hx2⟩ : ∃ x2, P.hexL (P.bitsL c 24) = x2 := ⟨_, rfl⟩
  obtain ⟨s1, hs1⟩ : ∃ s1, P.kW a ++ [32] = s1 := ⟨_, rfl⟩
  obtain ⟨s2, hs2⟩ : ∃ s2, s1 ++ x1 = s2 := ⟨_, rfl⟩
  obtain ⟨s3, hs3⟩ : ∃ s3, s2 ++ [32] = s3 := ⟨_, rfl⟩
  obtain ⟨s4, hs4⟩ : ∃ s4, s3 ++ x2 = s4 := ⟨_, rfl⟩
  have HR := Lib.hid (show s4 = P.ftR a b c by rw [← hs4, ← hs3, ← hs2, ← hs1, ← hx1, ← hx2]; rfl)
  rw [hx1] at l16
  rw [hx2] at l24
  have m1 : s1.length ≤ 9 := by rw [← hs1]; simp; omega
  have m2 : s2.length ≤ 13 := by rw [← hs2]; simp; omega
  have m3 : s3.length ≤ 14 := by rw [← hs3]; simp; omega
  have hadd1 : ∀ W, (Op.stringOp .add (bs (P.kW a)) ⟨#[32]⟩).run Try.prog W = .ok (.string (bs s1)) W := fun W => by rw [← hs1]; exact run_add W _ [32] (by simp; omega)
  have hadd2 : ∀ W, (Op.stringOp .add (bs s1) (bs x1)).run Try.prog W = .ok (.string (bs s2)) W := fun W => by rw [← hs2]; exact run_add W _ _ (by omega)
  have hadd3 : ∀ W, (Op.stringOp .add (bs s2) ⟨#[32]⟩).run Try.prog W = .ok (.string (bs s3)) W := fun W => by rw [← hs3]; exact run_add W _ [32] (by simp; omega)
  have hadd4 : ∀ W, (Op.stringOp .add (bs s3) (bs x2)).run Try.prog W = .ok (.string (bs s4)) W := fun W => by rw [← hs4]; exact run_add W _ _ (by omega)
  have HX1 := Lib.hid hx1
  have HX2 := Lib.hid hx2
  clear hkl l16 l24 hx1 hx2 hs1 hs2 hs3 hs4 m1 m2 m3
  have hk0 : 0 ≤ (a : Int) := by omega
  have hk5 : (a : Int) < 5 := by omega
  obtain ⟨W0, hW0⟩ : ∃ W0, w.alloc (.cells #[.int .i64 a, .int .i64 b, .int .i64 c] 57) = W0 := ⟨_, rfl⟩
  have hB0 : Below w.heap.size w W0 := by rw [← hW0]; exact (Below.refl _ _).alloc (Nat.le_refl _) _
  have hc0 : W0.cell? ⟨w.heap.size, 0, none⟩ = some (.int .i64 a) ∧ W0.cell? ⟨w.heap.size, 1, none⟩ = some (.int .i64 b) ∧ W0.cell? ⟨w.heap.size, 2, none⟩ = some (.int .i64 c) := by
    rw [← hW0]; exact ⟨by simp, by simp, by simp⟩
  go_enter Try.func200, Try.ntmps200
  go_wp2_with fail
  clear hW0
  refine wp_region_held_drew (S := fun w' => w'.cell? ⟨w.heap.size, 0, none⟩ = some (.int .i64 a) ∧ w'.cell? ⟨w.heap.size, 1, none⟩ = some (.int .i64 b) ∧ w'.cell? ⟨w.heap.size, 2, none⟩ = some (.int .i64 c)) (by kernel_rfl) hc0 (fun hHeld0 => ?_)
  refine wpAnyH_take (i := 1) (v := ?v1) rfl (by kernel_rfl) (by kernel_rfl) (by kernel_rfl) (fun _ _ _ h => h) (Or.inl ⟨by rfl, ?y1⟩) (by assumption) ?r1
  case y1 => (intro wq hSw; (try dsimp only at hSw); go_simp; (try with_reducible rfl))
  try simp only [Act.put, List.setIfInBounds_toArray, List.set_cons_zero, List.set_cons_succ]
  refine wpAnyH_take (i := 2) (v := ?v2) rfl (by kernel_rfl) (by kernel_rfl) (by kernel_rfl) (fun _ _ _ h => h) (Or.inl ⟨by rfl, ?y2⟩) (by assumption) ?r2
  case y2 => (intro wq hSw; (try dsimp only at hSw); go_simp; (try with_reducible rfl))
  try simp only [Act.put, List.setIfInBounds_toArray, List.set_cons_zero, List.set_cons_succ]
  refine wpAnyH_take (i := 6) (v := ?v3) rfl (by kernel_rfl) (by kernel_rfl) (by kernel_rfl) (fun _ _ _ h => h) (Or.inl ⟨by rfl, ?y3⟩) (by assumption) ?r3
  case y3 => (intro wq hSw; (try dsimp only at hSw); go_simp; (try with_reducible rfl))
  try simp only [Act.put, List.setIfInBounds_toArray, List.set_cons_zero, List.set_cons_succ]
  refine wpAnyH_take (i := 7) (v := ?v4) rfl (by kernel_rfl) (by kernel_rfl) (by kernel_rfl) (fun _ _ _ h => h) (Or.inl ⟨by rfl, ?y4⟩) (by assumption) ?r4
  case y4 => (intro wq hSw; (try dsimp only at hSw); go_simp; (try with_reducible rfl))
  try simp only [Act.put, List.setIfInBounds_toArray, List.set_cons_zero, List.set_cons_succ]
  refine wpAnyH_take (i := 12) (v := ?v5) rfl (by kernel_rfl) (by kernel_rfl) (by kernel_rfl) (fun _ _ _ h => h) (Or.inl ⟨by rfl, ?y5⟩) (by assumption) ?r5
  case y5 => (intro wq hSw; (try dsimp only at hSw); go_simp; (try with_reducible rfl))
  try simp only [Act.put, List.setIfInBounds_toArray, List.set_cons_zero, List.set_cons_succ]
  refine wpAnyH_take (i := 13) (v := ?v6) rfl (by kernel_rfl) (by kernel_rfl) (by kernel_rfl) (fun _ _ _ h => h) (Or.inl ⟨by rfl, ?y6⟩) (by assumption) ?r6
  case y6 => (intro wq hSw; (try dsimp only at hSw); go_simp; (try with_reducible rfl))
  try simp only [Act.put, List.setIfInBounds_toArray, List.set_cons_zero, List.set_cons_succ]
  refine wpAnyH_ready (rs := [0]) (by kernel_rfl) (by simp) ?_
  refine AllReadyH.cons rfl (fun K hK => ?_) AllReadyH.nil
  go_simp
  refine (c_kindWords _).mono ?_
  rintro e wA ⟨rfl, hkA, hbA⟩
  have hkc : wA.cell? ⟨W0.heap.size, a, none⟩ = some (.string (bs (P.kW a))) := hkA a (by omega)
  have hBA : Below w.heap.size w wA := hB0.trans (Below.mono (show Below W0.heap.size W0 wA from ⟨hbA.os, hbA.tape, hbA.output, hbA.size, hbA.block⟩) hB0.size)
  refine hK.out _ _ ((box_keep hbA hHeld0)) (fun hHeld1 => ?_)
  clear hK K
  try simp only [Act.put, List.setIfInBounds_toArray, List.set_cons_zero, List.set_cons_succ]
  refine wpAnyH_weaken (S' := fun w' => (w'.cell? ⟨w.heap.size, 0, none⟩ = some (.int .i64 a) ∧ w'.cell? ⟨w.heap.size, 1, none⟩ = some (.int .i64 b) ∧ w'.cell? ⟨w.heap.size, 2, none⟩ = some (.int .i64 c)) ∧ w'.cell? ⟨W0.heap.size, a, none⟩ = some (.string (bs (P.kW a)))) (fun w h => h.1) _ _ _ _ ?_
  have hHeld2 : (fun w' : World => (w'.cell? ⟨w.heap.size, 0, none⟩ = some (.int .i64 a) ∧ w'.cell? ⟨w.heap.size, 1, none⟩ = some (.int .i64 b) ∧ w'.cell? ⟨w.heap.size, 2, none⟩ = some (.int .i64 c)) ∧ w'.cell? ⟨W0.heap.size, a, none⟩ = some (.string (bs (P.kW a)))) wA := ⟨hHeld1, hkc⟩
  clear hHeld0 hHeld1 hkc
  refine wpAnyH_take (i := 3) (v := ?v7) rfl (by kernel_rfl) (by kernel_rfl) (by kernel_rfl) (fun _ _ _ h => h) (Or.inl ⟨by rfl, ?y7⟩) (by assumption) ?r7
  case y7 => (intro wq hSw; (try dsimp only at hSw); go_simp; (try with_reducible rfl))
  try simp only [Act.put, List.setIfInBounds_toArray, List.set_cons_zero, List.set_cons_succ]
  refine wpAnyH_take (i := 4) (v := ?v8) rfl (by kernel_rfl) (by kernel_rfl) (by kernel_rfl) (fun _ _ _ h => h) (Or.inl ⟨by rfl, ?y8⟩) (by assumption) ?r8
  case y8 => (intro wq hSw; (try dsimp only at hSw); go_simp; (try with_reducible rfl))
  try simp only [Act.put, List.setIfInBounds_toArray, List.set_cons_zero, List.set_cons_succ]
  refine wpAnyH_take (i := 5) (v := ?v9) rfl (by kernel_rfl) (by kernel_rfl) (by kernel_rfl) (fun _ _ _ h => h) (Or.inl ⟨by rfl, ?y9⟩) (by assumption) ?r9
  case y9 => (intro wq hSw; (try dsimp only at hSw); go_simp; (try with_reducible rfl))
  try simp only [Act.put, List.setIfInBounds_toArray, List.set_cons_zero, List.set_cons_succ]
  refine wpAnyH_ready (rs := [8]) (by kernel_rfl) (by simp) ?_
  refine AllReadyH.cons rfl (fun K hK => ?_) AllReadyH.nil
  go_simp
  refine (c_bitsOf b 16 _ (by omega) (by omega)).mono ?_
  rintro e wB ⟨rfl, hqB⟩
  have hbB := hqB
  clear hqB
  refine hK.out _ _ ((box_keep4 hbB hHeld2)) (fun hHeld3 => ?_)
  clear hK K
  try simp only [Act.put, List.setIfInBounds_toArray, List.set_cons_zero, List.set_cons_succ]
  refine wpAnyH_ready (rs := [9]) (by kernel_rfl) (by simp) ?_
  refine AllReadyH.cons rfl (fun K hK => ?_) AllReadyH.nil
  go_simp
  refine (c_hexOf_l (P.bitsL b 16) _ (by rw [P.bitsL_len]; omega) (by rw [P.bitsL_len]) (P.bitsL_bits _ _)).mono ?_
  rintro e w' ⟨rfl, rfl⟩
  rw [HX1.out]
  refine hK.out _ _ (hHeld3) (fun hHeld4 => ?_)
  clear hK K
  try simp only [Act.put, List.setIfInBounds_toArray, List.set_cons_zero, List.set_cons_succ]
  refine wpAnyH_take (i := 10) (v := ?v10) rfl (by kernel_rfl) (by kernel_rfl) (by kernel_rfl) (fun _ _ _ h => h) (Or.inl ⟨by rfl, ?y10⟩) (by assumption) ?r10
  case y10 => (intro wq hSw; (try dsimp only at hSw); go_simp; (try with_reducible rfl))
  try simp only [Act.put, List.setIfInBounds_toArray, List.set_cons_zero, List.set_cons_succ]
  refine wpAnyH_take (i := 11) (v := ?v11) rfl (by kernel_rfl) (by kernel_rfl) (by kernel_rfl) (fun _ _ _ h => h) (Or.inl ⟨by rfl, ?y11⟩) (by assumption) ?r11
  case y11 => (intro wq hSw; (try dsimp only at hSw); go_simp; (try with_reducible rfl))
  try simp only [Act.put, List.setIfInBounds_toArray, List.set_cons_zero, List.set_cons_succ]
  refine wpAnyH_ready (rs := [14]) (by kernel_rfl) (by simp) ?_
  refine AllReadyH.cons rfl (fun K hK => ?_) AllReadyH.nil
  go_simp
  refine (c_bitsOf c 24 _ (by omega) (by omega)).mono ?_
  rintro e wC ⟨rfl, hqC⟩
  have hbC := hqC
  clear hqC
  refine hK.out _ _ ((box_keep4 hbC hHeld4)) (fun hHeld5 => ?_)
  clear hK K
  try simp only [Act.put, List.setIfInBounds_toArray, List.set_cons_zero, List.set_cons_succ]
  refine wpAnyH_ready (rs := [15]) (by kernel_rfl) (by simp) ?_
  refine AllReadyH.cons rfl (fun K hK => ?_) AllReadyH.nil
  go_simp
  refine (c_hexOf_l (P.bitsL c 24) _ (by rw [P.bitsL_len]; omega) (by rw [P.bitsL_len]) (P.bitsL_bits _ _)).mono ?_
  rintro e w' ⟨rfl, rfl⟩
  rw [HX2.out]
  refine hK.out _ _ (hHeld5) (fun hHeld6 => ?_)
  clear hK K
  try simp only [Act.put, List.setIfInBounds_toArray, List.set_cons_zero, List.set_cons_succ]
  refine wpAnyH_take (i := 16) (v := ?v12) rfl (by kernel_rfl) (by kernel_rfl) (by kernel_rfl) (fun _ _ _ h => h) (Or.inl ⟨by rfl, ?y12⟩) (by assumption) ?r12
  case y12 => (intro wq hSw; (try dsimp only at hSw); go_simp; (try with_reducible rfl))
  try simp only [Act.put, List.setIfInBounds_toArray, List.set_cons_zero, List.set_cons_succ]
  refine wpAnyH_take (i := 17) (v := ?v13) rfl (by kernel_rfl) (by kernel_rfl) (by kernel_rfl) (fun _ _ _ h => h) (Or.inl ⟨by rfl, ?y13⟩) (by assumption) ?r13
  case y13 => (intro wq hSw; (try dsimp only at hSw); go_simp; (try with_reducible rfl))
  try simp only [Act.put, List.setIfInBounds_toArray, List.set_cons_zero, List.set_cons_succ]
  refine wpAnyH_done (by kernel_rfl) ?_ _
  have hBB := hBA.trans (hbB.mono hBA.size)
  have hBC := hBB.trans (hbC.mono hBB.size)
  clear hbA hbB hbC
  go_wp2
  go_ret
  exact ⟨ret_bs HR.out, hBC⟩
set_option maxHeartbeats 4000000 in
theorem c_l5Text (a b c : Nat) (w : World) (h1 : 1 ≤ a) (h4 : a ≤ 4) (hb1 : b ≤ 65535) (hc1 : c ≤ 16777215) : Calls Try.prog 204 #[fr a b c] w fun e w' => e = .returned (.string (bs (P.ftR a b c))) ∧ Below w.heap.size w w' := by
  unfold fr
  have hkl := P.kW_len a
  have l16 := P.hex16 b
  have l24 := P.hex24 c
  obtain ⟨x1, hx1⟩ : ∃ x1, P.hexL (P.bitsL b 16) = x1 := ⟨_, rfl⟩
  obtain ⟨x2, hx2⟩ : ∃ x2, P.hexL (P.bitsL c 24) = x2 := ⟨_, rfl⟩
  obtain ⟨s1, hs1⟩ : ∃ s1, P.kW a ++ [32] = s1 := ⟨_, rfl⟩
  obtain ⟨s2, hs2⟩ : ∃ s2, s1 ++ x1 = s2 := ⟨_, rfl⟩
  obtain ⟨s3, hs3⟩ : ∃ s3, s2 ++ [32] = s3 := ⟨_, rfl⟩
  obtain ⟨s4, hs4⟩ : ∃ s4, s3 ++ x2 = s4 := ⟨_, rfl⟩
  have HR := Lib.hid (show s4 = P.ftR a b c by rw [← hs4, ← hs3, ← hs2, ← hs1, ← hx1, ← hx2]; rfl)
  rw [hx1] at l16
  rw [hx2] at l24
  have m1 : s1.length ≤ 9 := by rw [← hs1]; simp; omega
  have m2 : s2.length ≤ 13 := by rw [← hs2]; simp; omega
  have m3 : s3.length ≤ 14 := by rw [← hs3]; simp; omega
  have hadd1 : ∀ W, (Op.stringOp .add (bs (P.kW a)) ⟨#[32]⟩).run Try.prog W = .ok (.string (bs s1)) W := fun W => by rw [← hs1]; exact run_add W _ [32] (by simp; omega)
  have hadd2 : ∀ W, (Op.stringOp .add (bs s1) (bs x1)).run Try.prog W = .ok (.string (bs s2)) W := fun W => by rw [← hs2]; exact run_add W _ _ (by omega)
  have hadd3 : ∀ W, (Op.stringOp .add (bs s2) ⟨#[32]⟩).run Try.prog W = .ok (.string (bs s3)) W := fun W => by rw [← hs3]; exact run_add W _ [32] (by simp; omega)
  have hadd4 : ∀ W, (Op.stringOp .add (bs s3) (bs x2)).run Try.prog W = .ok (.string (bs s4)) W := fun W => by rw [← hs4]; exact run_add W _ _ (by omega)
  have HX1 := Lib.hid hx1
  have HX2 := Lib.hid hx2
  clear hkl l16 l24 hx1 hx2 hs1 hs2 hs3 hs4 m1 m2 m3
  have hk0 : 0 ≤ (a : Int) := by omega
  have hk5 : (a : Int) < 5 := by omega
  obtain ⟨W0, hW0⟩ : ∃ W0, w.alloc (.cells #[.int .i64 a, .int .i64 b, .int .i64 c] 57) = W0 := ⟨_, rfl⟩
  have hB0 : Below w.heap.size w W0 := by rw [← hW0]; exact (Below.refl _ _).alloc (Nat.le_refl _) _
  have hc0 : W0.cell? ⟨w.heap.size, 0, none⟩ = some (.int .i64 a) ∧ W0.cell? ⟨w.heap.size, 1, none⟩ = some (.int .i64 b) ∧ W0.cell? ⟨w.heap.size, 2, none⟩ = some (.int .i64 c) := by
    rw [← hW0]; exact ⟨by simp, by simp, by simp⟩
  go_enter Try.func204, Try.ntmps204
  go_wp2_with fail
  clear hW0
  refine wp_region_held_drew (S := fun w' => w'.cell? ⟨w.heap.size, 0, none⟩ = some (.int .i64 a) ∧ w'.cell? ⟨w.heap.size, 1, none⟩ = some (.int .i64 b) ∧ w'.cell? ⟨w.heap.size, 2, none⟩ = some (.int .i64 c)) (by kernel_rfl) hc0 (fun hHeld0 => ?_)
  refine wpAnyH_take (i := 1) (v := ?v1) rfl (by kernel_rfl) (by kernel_rfl) (by kernel_rfl) (fun _ _ _ h => h) (Or.inl ⟨by rfl, ?y1⟩) (by assumption) ?r1
  case y1 => (intro wq hSw; (try dsimp only at hSw); go_simp; (try with_reducible rfl))
  try simp only [Act.put, List.setIfInBounds_toArray, List.set_cons_zero, List.set_cons_succ]
  refine wpAnyH_take (i := 2) (v := ?v2) rfl (by kernel_rfl) (by kernel_rfl) (by kernel_rfl) (fun _ _ _ h => h) (Or.inl ⟨by rfl, ?y2⟩) (by assumption) ?r2
  case y2 => (intro wq hSw; (try dsimp only at hSw); go_simp; (try with_reducible rfl))
  try simp only [Act.put, List.setIfInBounds_toArray, List.set_cons_zero, List.set_cons_succ]
  refine wpAnyH_take (i := 6) (v := ?v3) rfl (by kernel_rfl) (by kernel_rfl) (by kernel_rfl) (fun _ _ _ h => h) (Or.inl ⟨by rfl, ?y3⟩) (by assumption) ?r3
  case y3 => (intro wq hSw; (try dsimp only at hSw); go_simp; (try with_reducible rfl))
  try simp only [Act.put, List.setIfInBounds_toArray, List.set_cons_zero, List.set_cons_succ]
  refine wpAnyH_take (i := 7) (v := ?v4) rfl (by kernel_rfl) (by kernel_rfl) (by kernel_rfl) (fun _ _ _ h => h) (Or.inl ⟨by rfl, ?y4⟩) (by assumption) ?r4
  case y4 => (intro wq hSw; (try dsimp only at hSw); go_simp; (try with_reducible rfl))
  try simp only [Act.put, List.setIfInBounds_toArray, List.set_cons_zero, List.set_cons_succ]
  refine wpAnyH_take (i := 12) (v := ?v5) rfl (by kernel_rfl) (by kernel_rfl) (by kernel_rfl) (fun _ _ _ h => h) (Or.inl ⟨by rfl, ?y5⟩) (by assumption) ?r5
  case y5 => (intro wq hSw; (try dsimp only at hSw); go_simp; (try with_reducible rfl))
  try simp only [Act.put, List.setIfInBounds_toArray, List.set_cons_zero, List.set_cons_succ]
  refine wpAnyH_take (i := 13) (v := ?v6) rfl (by kernel_rfl) (by kernel_rfl) (by kernel_rfl) (fun _ _ _ h => h) (Or.inl ⟨by rfl, ?y6⟩) (by assumption) ?r6
  case y6 => (intro wq hSw; (try dsimp only at hSw); go_simp; (try with_reducible rfl))
  try simp only [Act.put, List.setIfInBounds_toArray, List.set_cons_zero, List.set_cons_succ]
  refine wpAnyH_ready (rs := [0]) (by kernel_rfl) (by simp) ?_
  refine AllReadyH.cons rfl (fun K hK => ?_) AllReadyH.nil
  go_simp
  refine (c_l5Words _).mono ?_
  rintro e wA ⟨rfl, hkA, hbA⟩
  have hkc : wA.cell? ⟨W0.heap.size, a, none⟩ = some (.string (bs (P.kW a))) := hkA a (by omega)
  have hBA : Below w.heap.size w wA := hB0.trans (Below.mono (show Below W0.heap.size W0 wA from ⟨hbA.os, hbA.tape, hbA.output, hbA.size, hbA.block⟩) hB0.size)
  refine hK.out _ _ ((box_keep hbA hHeld0)) (fun hHeld1 => ?_)
  clear hK K
  try simp only [Act.put, List.setIfInBounds_toArray, List.set_cons_zero, List.set_cons_succ]
  refine wpAnyH_weaken (S' := fun w' => (w'.cell? ⟨w.heap.size, 0, none⟩ = some (.int .i64 a) ∧ w'.cell? ⟨w.heap.size, 1, none⟩ = some (.int .i64 b) ∧ w'.cell? ⟨w.heap.size, 2, none⟩ = some (.int .i64 c)) ∧ w'.cell? ⟨W0.heap.size, a, none⟩ = some (.string (bs (P.kW a)))) (fun w h => h.1) _ _ _ _ ?_
  have hHeld2 : (fun w' : World => (w'.cell? ⟨w.heap.size, 0, none⟩ = some (.int .i64 a) ∧ w'.cell? ⟨w.heap.size, 1, none⟩ = some (.int .i64 b) ∧ w'.cell? ⟨w.heap.size, 2, none⟩ = some (.int .i64 c)) ∧ w'.cell? ⟨W0.heap.size, a, none⟩ = some (.string (bs (P.kW a)))) wA := ⟨hHeld1, hkc⟩
  clear hHeld0 hHeld1 hkc
  refine wpAnyH_take (i := 3) (v := ?v7) rfl (by kernel_rfl) (by kernel_rfl) (by kernel_rfl) (fun _ _ _ h => h) (Or.inl ⟨by rfl, ?y7⟩) (by assumption) ?r7
  case y7 => (intro wq hSw; (try dsimp only at hSw); go_simp; (try with_reducible rfl))
  try simp only [Act.put, List.setIfInBounds_toArray, List.set_cons_zero, List.set_cons_succ]
  refine wpAnyH_take (i := 4) (v := ?v8) rfl (by kernel_rfl) (by kernel_rfl) (by kernel_rfl) (fun _ _ _ h => h) (Or.inl ⟨by rfl, ?y8⟩) (by assumption) ?r8
  case y8 => (intro wq hSw; (try dsimp only at hSw); go_simp; (try with_reducible rfl))
  try simp only [Act.put, List.setIfInBounds_toArray, List.set_cons_zero, List.set_cons_succ]
  refine wpAnyH_take (i := 5) (v := ?v9) rfl (by kernel_rfl) (by kernel_rfl) (by kernel_rfl) (fun _ _ _ h => h) (Or.inl ⟨by rfl, ?y9⟩) (by assumption) ?r9
  case y9 => (intro wq hSw; (try dsimp only at hSw); go_simp; (try with_reducible rfl))
  try simp only [Act.put, List.setIfInBounds_toArray, List.set_cons_zero, List.set_cons_succ]
  refine wpAnyH_ready (rs := [8]) (by kernel_rfl) (by simp) ?_
  refine AllReadyH.cons rfl (fun K hK => ?_) AllReadyH.nil
  go_simp
  refine (c_l2Of b 16 _ (by omega) (by omega)).mono ?_
  rintro e wB ⟨rfl, hqB⟩
  have hbB := (same_belowF hqB)
  clear hqB
  refine hK.out _ _ ((box_keep4 hbB hHeld2)) (fun hHeld3 => ?_)
  clear hK K
  try simp only [Act.put, List.setIfInBounds_toArray, List.set_cons_zero, List.set_cons_succ]
  refine wpAnyH_ready (rs := [9]) (by kernel_rfl) (by simp) ?_
  refine AllReadyH.cons rfl (fun K hK => ?_) AllReadyH.nil
  go_simp
  refine (c_l2Hex_l (P.bitsL b 16) _ (by rw [P.bitsL_len]; omega) (by rw [P.bitsL_len]) (P.bitsL_bits _ _)).mono ?_
  rintro e w' ⟨rfl, rfl⟩
  rw [HX1.out]
  refine hK.out _ _ (hHeld3) (fun hHeld4 => ?_)
  clear hK K
  try simp only [Act.put, List.setIfInBounds_toArray, List.set_cons_zero, List.set_cons_succ]
  refine wpAnyH_take (i := 10) (v := ?v10) rfl (by kernel_rfl) (by kernel_rfl) (by kernel_rfl) (fun _ _ _ h => h) (Or.inl ⟨by rfl, ?y10⟩) (by assumption) ?r10
  case y10 => (intro wq hSw; (try dsimp only at hSw); go_simp; (try with_reducible rfl))
  try simp only [Act.put, List.setIfInBounds_toArray, List.set_cons_zero, List.set_cons_succ]
  refine wpAnyH_take (i := 11) (v := ?v11) rfl (by kernel_rfl) (by kernel_rfl) (by kernel_rfl) (fun _ _ _ h => h) (Or.inl ⟨by rfl, ?y11⟩) (by assumption) ?r11
  case y11 => (intro wq hSw; (try dsimp only at hSw); go_simp; (try with_reducible rfl))
  try simp only [Act.put, List.setIfInBounds_toArray, List.set_cons_zero, List.set_cons_succ]
  refine wpAnyH_ready (rs := [14]) (by kernel_rfl) (by simp) ?_
  refine AllReadyH.cons rfl (fun K hK => ?_) AllReadyH.nil
  go_simp
  refine (c_l2Of c 24 _ (by omega) (by omega)).mono ?_
  rintro e wC ⟨rfl, hqC⟩
  have hbC := (same_belowF hqC)
  clear hqC
  refine hK.out _ _ ((box_keep4 hbC hHeld4)) (fun hHeld5 => ?_)
  clear hK K
  try simp only [Act.put, List.setIfInBounds_toArray, List.set_cons_zero, List.set_cons_succ]
  refine wpAnyH_ready (rs := [15]) (by kernel_rfl) (by simp) ?_
  refine AllReadyH.cons rfl (fun K hK => ?_) AllReadyH.nil
  go_simp
  refine (c_l2Hex_l (P.bitsL c 24) _ (by rw [P.bitsL_len]; omega) (by rw [P.bitsL_len]) (P.bitsL_bits _ _)).mono ?_
  rintro e w' ⟨rfl, rfl⟩
  rw [HX2.out]
  refine hK.out _ _ (hHeld5) (fun hHeld6 => ?_)
  clear hK K
  try simp only [Act.put, List.setIfInBounds_toArray, List.set_cons_zero, List.set_cons_succ]
  refine wpAnyH_take (i := 16) (v := ?v12) rfl (by kernel_rfl) (by kernel_rfl) (by kernel_rfl) (fun _ _ _ h => h) (Or.inl ⟨by rfl, ?y12⟩) (by assumption) ?r12
  case y12 => (intro wq hSw; (try dsimp only at hSw); go_simp; (try with_reducible rfl))
  try simp only [Act.put, List.setIfInBounds_toArray, List.set_cons_zero, List.set_cons_succ]
  refine wpAnyH_take (i := 17) (v := ?v13) rfl (by kernel_rfl) (by kernel_rfl) (by kernel_rfl) (fun _ _ _ h => h) (Or.inl ⟨by rfl, ?y13⟩) (by assumption) ?r13
  case y13 => (intro wq hSw; (try dsimp only at hSw); go_simp; (try with_reducible rfl))
  try simp only [Act.put, List.setIfInBounds_toArray, List.set_cons_zero, List.set_cons_succ]
  refine wpAnyH_done (by kernel_rfl) ?_ _
  have hBB := hBA.trans (hbB.mono hBA.size)
  have hBC := hBB.trans (hbC.mono hBB.size)
  clear hbA hbB hbC
  go_wp2
  go_ret
  exact ⟨ret_bs HR.out, hBC⟩
theorem ft_no {a b c : Int} (h : frOk a b c = false) : P.ftL a b c = [] := by unfold P.ftL; rw [show P.frB a b c = false from h]; rfl
theorem ft_yes {a b c : Nat} (h : frOk a b c = true) : P.ftL a b c = P.ftR a b c := by unfold P.ftL; rw [show P.frB a b c = true from h]; rfl
theorem c_implFrameText (a b c : Int) (w : World) : Calls Try.prog 118 #[fr a b c] w fun e w' => e = .returned (.tuple #[.string (bs (P.ftL a b c)), .bool (frOk a b c)]) ∧ Below w.heap.size w w' := by
  cases h : frOk a b c with
  | false =>
    have HF := Lib.hid h
    clear h
    go_enter Try.func118, Try.ntmps118
    go_wp2_with fail
    refine (c_implIsValidFrame a b c _).mono ?_
    rintro e w1 ⟨rfl, hb1⟩
    rw [HF.out]
    go_wp2
    go_ret2
    exact ⟨ret_sb (by rw [ft_no HF.out]; rfl) rfl, box_below hb1⟩
  | true =>
    obtain ⟨⟨a1, a2⟩, ⟨b1, b2⟩, c1, c2⟩ := P.frB_iff.1 (show P.frB a b c = true from h)
    obtain ⟨a, rfl⟩ : ∃ x : Nat, a = (x : Int) := ⟨a.toNat, by omega⟩
    obtain ⟨b, rfl⟩ : ∃ x : Nat, b = (x : Int) := ⟨b.toNat, by omega⟩
    obtain ⟨c, rfl⟩ : ∃ x : Nat, c = (x : Int) := ⟨c.toNat, by omega⟩
    have HT := Lib.hid h
    clear h
    go_enter Try.func118, Try.ntmps118
    go_wp2_with fail
    refine (c_implIsValidFrame a b c _).mono ?_
    rintro e w1 ⟨rfl, hb1⟩
    rw [HT.out]
    obtain ⟨k0, k1, k2⟩ := box3 hb1
    go_wp2_with fail
    refine (c_frameText a b c _ (by omega) (by omega) (by omega) (by omega)).mono ?_
    rintro e w2 ⟨rfl, hb2⟩
    go_wp2
    go_ret2
    exact ⟨ret_sb (by rw [ft_yes HT.out]) rfl, box_below (hb1.trans (hb2.mono hb1.size))⟩

end Go.Proofs.Ytfbanjmooknafaa
