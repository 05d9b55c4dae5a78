/-
  Contracts of the functions that make bit strings.
-/
import Derived.Test.YtfbanjmooknafaaB
import Derived.Test.YtfbanjmooknafaaY
namespace Go.Proofs.Ytfbanjmooknafaa
open Go.RowKit
set_option linter.unusedSimpArgs false
set_option linter.unusedVariables false
set_option maxRecDepth 100000

theorem info_u8 : (Try.prog.info? 5).map (fun i => (i.zero, i.size, i.bytes)) = some (some (.int .u8 0), 1, 1) := by kernel_rfl
theorem bit_cut (n : Nat) (hn : n < 2) : (⟨#[48, 49]⟩ : ByteArray).extract n (n + 1) = bs [P.bt n] := by
  have : n = 0 ∨ n = 1 := by omega
  rcases this with rfl | rfl <;> rfl
theorem c_l2Of (n width : Nat) (w : World) (hn : n ≤ 1073741823) (hwd : width ≤ 64) : Calls Try.prog 135 #[.int .i64 n, .int .i64 width] w fun e w' => e = .returned (.string (bs (P.bitsL n width))) ∧ w = w' := by
  go_enter Try.func135, Try.ntmps135
  go_wp2
  go_loop [5, 0, 6] (fun s m i => ∃ (k q : Nat) (l : List UInt8), k ≤ width ∧ q ≤ 1073741823 ∧ i = .int .i64 k ∧ m = .int .i64 q ∧ s = .string (bs l) ∧ l.length = k ∧ P.bitsL n width = P.bitsL q (width - k) ++ l) (fun _ _ i => width - (intOf i).toNat)
  case atStart => exact ⟨0, n, [], Nat.zero_le _, hn, rfl, rfl, rfl, rfl, by simp⟩
  case round =>
    obtain ⟨k, q, l, hk, hq, rfl, rfl, rfl, hl, he⟩ := hrel
    have HE := Lib.hid he
    have HL := Lib.hid hl
    clear he hl
    by_cases hlt : k < width
    · have hcut := bit_cut (q % 2) (by omega)
      have hadd : ∀ W, (Op.stringOp .add (bs [P.bt (q % 2)]) (bs l)).run Try.prog W = .ok (.string (bs (P.bt (q % 2) :: l))) W := fun W => run_add W _ _ (by simp [HL.out]; omega)
      have HN := Lib.hid (show P.bitsL n width = P.bitsL (q / 2) (width - (k + 1)) ++ P.bt (q % 2) :: l by
        rw [HE.out, show width - k = (width - (k + 1)) + 1 by omega, P.bitsL]; simp)
      go_wp2
      go_round
      case rel => exact ⟨k + 1, q / 2, _, by omega, by omega, by go_num, by go_num, rfl, by simp [HL.out], HN.out⟩
      case measure => simp [intOf]; omega
    · have HR := Lib.hid (show l = P.bitsL n width by
        rw [HE.out, show width - k = 0 by omega]; rfl)
      go_wp2
      go_ret
      exact ⟨ret_bs HR.out, rfl⟩
theorem c_bitsOf (n width : Nat) (w : World) (hn : n ≤ 1073741823) (hwd : width ≤ 64) : Calls Try.prog 165 #[.int .i64 n, .int .i64 width] w fun e w' => e = .returned (.string (bs (P.bitsL n width))) ∧ Below w.heap.size w w' := by
  obtain ⟨i0, hi, hz0, hz1, hz2⟩ := info_parts info_u8
  go_enter Try.func165, Try.ntmps165
  go_wp2_with (at_make; refine wpList_make_full _ rfl _ _ 22 rfl w.heap.size 5 i0 (.int .u8 0) 1 Try.underlying22 hi hz0 hz1 _ _ _ _ width rfl rfl rfl rfl (by rw [hz2]; omega) (by unfold maxLen; omega) (Nat.le_refl _) ?_)
  intro w1 hown1 hg1
  have hb1 : Below w.heap.size w w1 := (Below.refl _ _).grown hg1 (Nat.le_refl _) (fun k hk => by cases hk)
  have HO := Lib.hid (show w1.ownsRow w.heap.size 5 1 (.slice (some ⟨w.heap.size, 0, none⟩) width width) width (List.replicate width (.int .u8 0) ++ ub []) by
    have h := hown1
    rw [toList_madeCells_one] at h
    simpa [ub] using h)
  clear hown1 hg1
  have hcv := fun (W : World) (l : List UInt8) (h : W.ownsRow w.heap.size 5 1 (.slice (some ⟨w.heap.size, 0, none⟩) width width) width (ub l)) => run_str_row (P := Try.prog) 22 9 5 Try.underlying22 Try.underlying5 Try.underlying9 h
  have HCV := Lib.hid hcv
  clear hcv
  go_wp2
  go_loopw [0, 6] (fun m i wr => ∃ (j q : Nat) (l : List UInt8), j ≤ width ∧ q ≤ 1073741823 ∧ i = .int .i64 ((j : Int) - 1) ∧ m = .int .i64 q ∧ l.length + j = width ∧ P.bitsL n width = P.bitsL q j ++ l ∧
      wr.ownsRow w.heap.size 5 1 (.slice (some ⟨w.heap.size, 0, none⟩) width width) width (List.replicate j (.int .u8 0) ++ ub l) ∧ Below w.heap.size w wr) (fun _ i _ => (intOf i + 1).toNat)
  case atStart => exact ⟨width, n, [], Nat.le_refl _, hn, rfl, rfl, by simp, by simp, HO.out, hb1⟩
  case round =>
    obtain ⟨j, q, l, hj, hq, rfl, rfl, hl, he, hown, hb⟩ := hrel
    have HE := Lib.hid he
    have HL := Lib.hid hl
    clear he hl
    by_cases hlt : 0 < j
    · have hcell : wr.cell? ⟨w.heap.size, j - 1, none⟩ = some (.int .u8 0) := by
        rw [hown.cellAt (j - 1) (by omega), List.getElem?_append_left (by rw [List.length_replicate]; omega), List.getElem?_replicate, if_pos (by omega)]
      have hfz := hown.frozenAt (j - 1)
      have hst := hown.stored (j - 1) (.int .u8 (48 + (q : Int) % 2))
      have hset : (List.replicate j (Value.int .u8 0) ++ ub l).set (j - 1) (.int .u8 (48 + (q : Int) % 2)) = List.replicate (j - 1) (Value.int .u8 0) ++ ub (P.bt (q % 2) :: l) := by
        have e : j = (j - 1) + 1 := by omega
        rw [List.set_append_left _ _ (by rw [List.length_replicate]; omega)]
        have e2 : List.replicate j (Value.int .u8 0) = List.replicate (j - 1) (Value.int .u8 0) ++ [.int .u8 0] := by rw [e]; simp [List.replicate_succ']
        rw [e2, List.set_append_right _ _ (by rw [List.length_replicate]; omega), List.length_replicate, Nat.sub_self, List.set_cons_zero, List.append_assoc]
        congr 1
        have hbt := P.bt_nat (b := q % 2) (by omega)
        show _ = [Value.int .u8 ((P.bt (q % 2)).toNat : Int)] ++ ub l
        rw [hbt]
        congr 3
      rw [hset] at hst
      have HST := Lib.hid hst
      have HN := Lib.hid (show P.bitsL n width = P.bitsL (q / 2) (j - 1) ++ P.bt (q % 2) :: l by
        rw [HE.out]
        have e : j = (j - 1) + 1 := by omega
        rw [e, P.bitsL]; simp)
      have HB := Lib.hid (hb.setCell (p := ⟨w.heap.size, j - 1, none⟩) (Nat.le_refl _) (.int .u8 (48 + (q : Int) % 2)))
      have hix : ((j : Int) - 1).toNat = j - 1 := by omega
      have hj0 : 0 ≤ (j : Int) - 1 := by omega
      clear hst hset hown hb
      go_wp2
      go_roundw
      case rel => exact ⟨j - 1, q / 2, _, by omega, by omega, by go_num, by go_num, by simp; have := HL.out; omega, HN.out, HST.out.1, HB.out⟩
      case measure => simp [intOf]; omega
    · have h0 : j = 0 := by omega
      subst h0
      have HR := Lib.hid (show l = P.bitsL n width by rw [HE.out]; rfl)
      have hcv := HCV.out wr l (by simpa using hown)
      go_wp2
      go_ret
      exact ⟨ret_bs HR.out, hb⟩
theorem c_l2Flip (s : ByteArray) (i : Nat) (w : World) (hs : s.size ≤ 64) (hi : i < s.size) (hbits : (B s).all P.bitB = true) : Calls Try.prog 156 #[.string s, .int .i64 i] w fun e w' => e = .returned (.string (bs (P.flipL (B s) i))) ∧ Qt w w' := by
  have hl := B_len s
  have hbit := P.bit_at hbits (k := i) (by rw [hl]; exact hi)
  rw [B_get s i hi] at hbit
  obtain ⟨u, hu⟩ : ∃ u, s.extract 0 i = u := ⟨_, rfl⟩
  obtain ⟨v, hv⟩ : ∃ v, s.extract (i + 1) s.size = v := ⟨_, rfl⟩
  have hBu : B u = (B s).take i := by rw [← hu, B_ext]; simp
  have hBv : B v = (B s).drop (i + 1) := by rw [← hv, B_ext, List.take_of_length_le (by rw [List.length_drop]; omega)]
  have hul : (B u).length = i := by rw [hBu, List.length_take]; omega
  have hvl : (B v).length + i + 1 = s.size := by rw [hBv, List.length_drop]; omega
  have hget : (B s)[i]? = some (s[i]) := B_get? s i hi
  have key : ∀ c : UInt8, P.flipL (B s) i = (B s).set i (if (B s)[i]? = some 49 then 48 else 49) := fun _ => rfl
  have hset : ∀ c : UInt8, (B s).set i c = (B s).take i ++ c :: (B s).drop (i + 1) := fun c => by
    rw [List.set_eq_take_append_cons_drop, if_pos (by omega)]
  rcases (P.bitB_iff _).1 hbit with h0 | h0
  · have HR := Lib.hid (show B u ++ ([49] ++ B v) = P.flipL (B s) i by
      rw [key 0, hget, h0, if_neg (by decide), hset, hBu, hBv]; rfl)
    have hadd1 : ∀ W, (Op.stringOp .add u ⟨#[49]⟩).run Try.prog W = .ok (.string (bs (B u ++ [49]))) W := fun W => run_add_s W u (bs [49]) (by rw [B_bs]; simp; omega)
    have hadd2 : ∀ W, (Op.stringOp .add (bs (B u ++ [49])) v).run Try.prog W = .ok (.string (bs (P.flipL (B s) i))) W := fun W => by
      rw [run_add_s W _ v (by rw [B_bs]; simp; omega), B_bs, List.append_assoc, HR.out]
    have he : (((s[i]).toNat : Int) == 49) = false := by rw [h0]; rfl
    have h0i : 0 ≤ (i : Int) := by omega
    have hi' : (i : Int) < (s.size : Int) := by omega
    have hw1 : IntKind.i64.wrap ((i : Int) + 1) = (i : Int) + 1 := IntWalk.i64_in _ (by omega)
    have hn1 : ((i : Int) + 1).toNat = i + 1 := by omega
    have hp1 : 0 ≤ (i : Int) + 1 := by omega
    have hp2 : (i : Int) + 1 ≤ (s.size : Int) := by omega
    clear h0 hget key hset hbit hBu hBv
    go_enter Try.func156, Try.ntmps156
    go_wp2
    go_quiet (fail)
    go_wp2
    go_ret
    exact ⟨rfl, Qt.of _ _⟩
  · have HR := Lib.hid (show B u ++ ([48] ++ B v) = P.flipL (B s) i by
      rw [key 0, hget, h0, if_pos rfl, hset, hBu, hBv]; rfl)
    have hadd1 : ∀ W, (Op.stringOp .add u ⟨#[48]⟩).run Try.prog W = .ok (.string (bs (B u ++ [48]))) W := fun W => run_add_s W u (bs [48]) (by rw [B_bs]; simp; omega)
    have hadd2 : ∀ W, (Op.stringOp .add (bs (B u ++ [48])) v).run Try.prog W = .ok (.string (bs (P.flipL (B s) i))) W := fun W => by
      rw [run_add_s W _ v (by rw [B_bs]; simp; omega), B_bs, List.append_assoc, HR.out]
    have he : (((s[i]).toNat : Int) == 49) = true := by rw [h0]; rfl
    have h0i : 0 ≤ (i : Int) := by omega
    have hi' : (i : Int) < (s.size : Int) := by omega
    have hw1 : IntKind.i64.wrap ((i : Int) + 1) = (i : Int) + 1 := IntWalk.i64_in _ (by omega)
    have hn1 : ((i : Int) + 1).toNat = i + 1 := by omega
    have hp1 : 0 ≤ (i : Int) + 1 := by omega
    have hp2 : (i : Int) + 1 ≤ (s.size : Int) := by omega
    clear h0 hget key hset hbit hBu hBv
    go_enter Try.func156, Try.ntmps156
    go_wp2
    go_quiet (fail)
    go_wp2
    go_ret
    exact ⟨rfl, Qt.of _ _⟩
theorem xor_snoc (a b : List UInt8) (c d : UInt8) (h : a.length = b.length) : P.xorL (a ++ [c]) (b ++ [d]) = P.xorL a b ++ [if c = d then 48 else 49] := by
  unfold P.xorL; rw [List.zipWith_append h]; rfl
theorem c_l2Xor (s t : ByteArray) (w : World) (hs : s.size ≤ 64) (ht : t.size = s.size) : Calls Try.prog 158 #[.string s, .string t] w fun e w' => e = .returned (.string (bs (P.xorL (B s) (B t)))) ∧ Below w.heap.size w w' := by
  obtain ⟨i0, hi, hz0, hz1, hz2⟩ := info_parts info_u8
  have hls := B_len s
  have hlt := B_len t
  go_enter Try.func158, Try.ntmps158
  go_wp2
  go_loopw [5, 6] (fun v i wr => ∃ k : Nat, k ≤ s.size ∧ i = .int .i64 k ∧ (∃ g c, v = .slice (some ⟨g, 0, none⟩) k c) ∧ wr.ownsRow w.heap.size 5 1 v k (ub (P.xorL ((B s).take k) ((B t).take k))) ∧ Below w.heap.size w wr) (fun _ i _ => s.size - (intOf i).toNat)
  case atStart => exact ⟨0, Nat.zero_le _, rfl, ⟨_, _, rfl⟩, World.ownsRow_made _ _ _ (Nat.le_refl _) (by unfold maxLen; omega) rfl, (Below.refl _ _).alloc (Nat.le_refl _) _⟩
  case round =>
    obtain ⟨k, hk, rfl, ⟨g, c, rfl⟩, hown, hb⟩ := hrel
    have hsz := hb.size
    by_cases hk2 : k < s.size
    · have hkt : k < t.size := by omega
      have hk0 : 0 ≤ (k : Int) := by omega
      have hk3 : (k : Int) < (s.size : Int) := by omega
      have hk4 : (k : Int) < (t.size : Int) := by omega
      by_cases hc : s[k] = t[k]
      · have he : (((s[k]).toNat : Int) != ((t[k]).toNat : Int)) = false := by rw [bne_eq_false_iff_eq, hc]
        have HX := Lib.hid (show P.xorL ((B s).take (k + 1)) ((B t).take (k + 1)) = P.xorL ((B s).take k) ((B t).take k) ++ [48] by
          rw [take_snoc s k hk2, take_snoc t k hkt, xor_snoc _ _ _ _ (by rw [List.length_take, List.length_take]; omega), if_pos hc])
        clear hc
        go_wp2
        go_quiet (fail)
        have hown' : (wr.drewN nq).ownsRow w.heap.size 5 1 (.slice (some ⟨g, 0, none⟩) k c) k (ub (P.xorL ((B s).take k) ((B t).take k))) := hown
        have hb' := below_drewN hb nq
        have hsz' : w.heap.size ≤ (wr.drewN nq).heap.size := hsz
        obtain ⟨wz, hwz⟩ : ∃ wz, wr.drewN nq = wz := ⟨_, rfl⟩
        rw [hwz] at hown' hb' hsz' ⊢
        clear hown hb hsz hwz
        go_wp2_with (at_builtin; refine wpList_append_own _ rfl _ _ 22 rfl w.heap.size 5 i0 (.int .u8 0) 1 1 Try.underlying22 hi hz0 hz1 hz2 rfl (by decide) _ _ _ rfl (hown'.alloc _) ⟨wz.heap.size, 0, none⟩ 1 1 [.int .u8 48] rfl rfl (one_new _ _ _) ?pa2 ?pa3 ?pa4 ?pa5 ?_)
        case pa2 => intro u hu; simp at hu; subst hu; rfl
        case pa3 => unfold maxLen; omega
        case pa4 => omega
        case pa5 => simp; omega
        intro v1 w1 hown1 hg1 _
        have hb1 := below_app hb' hsz' hown' hg1
        have hf := own_form hown1 (by omega)
        obtain ⟨g1, c1, hv1, _⟩ := hf
        have HO := Lib.hid (show w1.ownsRow w.heap.size 5 1 v1 (k + 1) (ub (P.xorL ((B s).take (k + 1)) ((B t).take (k + 1)))) by
          rw [HX.out, ub_app]; exact hown1)
        have HV := Lib.hid hv1
        clear hown1 hg1 hown' hb' hv1
        go_wp2
        go_roundw
        case rel => exact ⟨k + 1, by omega, by go_num, ⟨g1, c1, HV.out⟩, HO.out, hb1⟩
        case measure => simp [intOf]; omega
      · have he : (((s[k]).toNat : Int) != ((t[k]).toNat : Int)) = true := by rw [bne_iff_ne]; intro e; exact hc (UInt8.toNat_inj.1 (by omega))
        have HX := Lib.hid (show P.xorL ((B s).take (k + 1)) ((B t).take (k + 1)) = P.xorL ((B s).take k) ((B t).take k) ++ [49] by
          rw [take_snoc s k hk2, take_snoc t k hkt, xor_snoc _ _ _ _ (by rw [List.length_take, List.length_take]; omega), if_neg hc])
        clear hc
        go_wp2
        go_quiet (fail)
        have hown' : (wr.drewN nq).ownsRow w.heap.size 5 1 (.slice (some ⟨g, 0, none⟩) k c) k (ub (P.xorL ((B s).take k) ((B t).take k))) := hown
        have hb' := below_drewN hb nq
        have hsz' : w.heap.size ≤ (wr.drewN nq).heap.size := hsz
        obtain ⟨wz, hwz⟩ : ∃ wz, wr.drewN nq = wz := ⟨_, rfl⟩
        rw [hwz] at hown' hb' hsz' ⊢
        clear hown hb hsz hwz
        go_wp2_with (at_builtin; refine wpList_append_own _ rfl _ _ 22 rfl w.heap.size 5 i0 (.int .u8 0) 1 1 Try.underlying22 hi hz0 hz1 hz2 rfl (by decide) _ _ _ rfl (hown'.alloc _) ⟨wz.heap.size, 0, none⟩ 1 1 [.int .u8 49] rfl rfl (one_new _ _ _) ?pb2 ?pb3 ?pb4 ?pb5 ?_)
        case pb2 => intro u hu; simp at hu; subst hu; rfl
        case pb3 => unfold maxLen; omega
        case pb4 => omega
        case pb5 => simp; omega
        intro v1 w1 hown1 hg1 _
        have hb1 := below_app hb' hsz' hown' hg1
        have hf := own_form hown1 (by omega)
        obtain ⟨g1, c1, hv1, _⟩ := hf
        have HO := Lib.hid (show w1.ownsRow w.heap.size 5 1 v1 (k + 1) (ub (P.xorL ((B s).take (k + 1)) ((B t).take (k + 1)))) by
          rw [HX.out, ub_app]; exact hown1)
        have HV := Lib.hid hv1
        clear hown1 hg1 hown' hb' hv1
        go_wp2
        go_roundw
        case rel => exact ⟨k + 1, by omega, by go_num, ⟨g1, c1, HV.out⟩, HO.out, hb1⟩
        case measure => simp [intOf]; omega
    · have hcv := run_str_row (P := Try.prog) 22 9 5 Try.underlying22 Try.underlying5 Try.underlying9 hown
      have HT1 := Lib.hid (take_all s k hk2)
      have HT2 := Lib.hid (take_all t k (by omega))
      clear hown
      go_wp2
      go_ret
      exact ⟨ret_bs (by rw [HT1.out, HT2.out]), hb⟩
theorem c_xorBits (s t : ByteArray) (w : World) (hs : s.size ≤ 64) (ht : t.size = s.size) : Calls Try.prog 142 #[.string s, .string t] w fun e w' => e = .returned (.string (bs (P.xorL (B s) (B t)))) ∧ Below w.heap.size w w' := by
  obtain ⟨i0, hi, hz0, hz1, hz2⟩ := info_parts info_u8
  have hls := B_len s
  have hlt := B_len t
  go_enter Try.func142, Try.ntmps142
  go_wp2_with (at_make; refine wpList_make_full _ rfl _ _ 22 rfl w.heap.size 5 i0 (.int .u8 0) 1 Try.underlying22 hi hz0 hz1 _ _ _ _ s.size rfl rfl rfl rfl (by rw [hz2]; omega) (by unfold maxLen; omega) (Nat.le_refl _) ?_)
  intro w1 hown1 hg1
  have hb1 : Below w.heap.size w w1 := (Below.refl _ _).grown hg1 (Nat.le_refl _) (fun k hk => by cases hk)
  have HO := Lib.hid (show w1.ownsRow w.heap.size 5 1 (.slice (some ⟨w.heap.size, 0, none⟩) s.size s.size) s.size (ub [] ++ List.replicate s.size (.int .u8 0)) by
    have h := hown1
    rw [toList_madeCells_one] at h
    simpa [ub] using h)
  clear hown1 hg1
  go_wp2
  go_loopw [12] (fun i wr => ∃ k : Nat, k ≤ s.size ∧ i = .int .i64 k ∧ wr.ownsRow w.heap.size 5 1 (.slice (some ⟨w.heap.size, 0, none⟩) s.size s.size) s.size (ub (P.xorL ((B s).take k) ((B t).take k)) ++ List.replicate (s.size - k) (.int .u8 0)) ∧ Below w.heap.size w wr) (fun i _ => s.size - (intOf i).toNat)
  case atStart => exact ⟨0, Nat.zero_le _, rfl, by simpa [P.xorL] using HO.out, hb1⟩
  case round =>
    obtain ⟨k, hk, rfl, hown, hb⟩ := hrel
    have hsz := hb.size
    by_cases hk2 : k < s.size
    · have hkt : k < t.size := by omega
      have hk0 : 0 ≤ (k : Int) := by omega
      have hk3 : (k : Int) < (s.size : Int) := by omega
      have hk4 : (k : Int) < (t.size : Int) := by omega
      have hxl : (ub (P.xorL ((B s).take k) ((B t).take k))).length = k := by
        rw [ub_len, P.xorL_len (by rw [List.length_take, List.length_take]; omega), List.length_take]; omega
      have hcell : wr.cell? ⟨w.heap.size, k, none⟩ = some (.int .u8 0) := by
        rw [hown.cellAt k (by omega), List.getElem?_append_right (by omega), hxl, Nat.sub_self, List.getElem?_replicate, if_pos (by omega)]
      have hfz := hown.frozenAt k
      have hst := fun (c : UInt8) => hown.stored k (.int .u8 (c.toNat : Int))
      have hset : ∀ c : UInt8, (ub (P.xorL ((B s).take k) ((B t).take k)) ++ List.replicate (s.size - k) (Value.int .u8 0)).set k (.int .u8 (c.toNat : Int)) = ub (P.xorL ((B s).take k) ((B t).take k) ++ [c]) ++ List.replicate (s.size - (k + 1)) (.int .u8 0) := fun c => by
        rw [List.set_append_right _ _ (by omega), hxl, Nat.sub_self, show s.size - k = (s.size - (k + 1)) + 1 by omega, List.replicate_succ, List.set_cons_zero, ub_app, List.append_assoc]; rfl
      have HST := Lib.hid hst
      have HSET := Lib.hid hset
      have HOWN := Lib.hid hown
      clear hst hset hown
      by_cases hc : s[k] = t[k]
      · have he : (((s[k]).toNat : Int) != ((t[k]).toNat : Int)) = false := by rw [bne_eq_false_iff_eq, hc]
        have HX := Lib.hid (show P.xorL ((B s).take (k + 1)) ((B t).take (k + 1)) = P.xorL ((B s).take k) ((B t).take k) ++ [48] by
          rw [take_snoc s k hk2, take_snoc t k hkt, xor_snoc _ _ _ _ (by rw [List.length_take, List.length_take]; omega), if_pos hc])
        clear hc
        go_wp2
        have h48 : (wr.setCell ⟨w.heap.size, k, none⟩ (.int .u8 48)).ownsRow w.heap.size 5 1 (.slice (some ⟨w.heap.size, 0, none⟩) s.size s.size) s.size (ub (P.xorL ((B s).take k) ((B t).take k) ++ [48]) ++ List.replicate (s.size - (k + 1)) (.int .u8 0)) := by
          have h := (HST.out 48).1
          rw [HSET.out] at h
          exact h
        have hb2 := hb.setCell (p := ⟨w.heap.size, k, none⟩) (Nat.le_refl _) (.int .u8 48)
        obtain ⟨wz, hwz⟩ : ∃ wz, wr.setCell ⟨w.heap.size, k, none⟩ (.int .u8 48) = wz := ⟨_, rfl⟩
        rw [hwz] at h48 hb2 ⊢
        have H48 := Lib.hid h48
        clear hcell hfz hwz h48
        go_quiet (fail)
        go_wp2
        go_roundw
        case rel => exact ⟨k + 1, by omega, by go_num, by rw [HX.out]; exact H48.out, below_drewN hb2 _⟩
        case measure => simp [intOf]; omega
      · have he : (((s[k]).toNat : Int) != ((t[k]).toNat : Int)) = true := by rw [bne_iff_ne]; intro e; exact hc (UInt8.toNat_inj.1 (by omega))
        have HX := Lib.hid (show P.xorL ((B s).take (k + 1)) ((B t).take (k + 1)) = P.xorL ((B s).take k) ((B t).take k) ++ [49] by
          rw [take_snoc s k hk2, take_snoc t k hkt, xor_snoc _ _ _ _ (by rw [List.length_take, List.length_take]; omega), if_neg hc])
        clear hc
        go_wp2
        have h48 : (wr.setCell ⟨w.heap.size, k, none⟩ (.int .u8 48)).ownsRow w.heap.size 5 1 (.slice (some ⟨w.heap.size, 0, none⟩) s.size s.size) s.size (ub (P.xorL ((B s).take k) ((B t).take k) ++ [48]) ++ List.replicate (s.size - (k + 1)) (.int .u8 0)) := by
          have h := (HST.out 48).1
          rw [HSET.out] at h
          exact h
        have hb2 := hb.setCell (p := ⟨w.heap.size, k, none⟩) (Nat.le_refl _) (.int .u8 48)
        obtain ⟨wz, hwz⟩ : ∃ wz, wr.setCell ⟨w.heap.size, k, none⟩ (.int .u8 48) = wz := ⟨_, rfl⟩
        rw [hwz] at h48 hb2 ⊢
        have H48 := Lib.hid h48
        clear hcell hfz hwz h48
        have hxl1 : (ub (P.xorL ((B s).take k) ((B t).take k) ++ [48])).length = k + 1 := by rw [ub_app, List.length_append, hxl]; rfl
        have hcell1 : wz.cell? ⟨w.heap.size, k, none⟩ = some (.int .u8 48) := by
          rw [H48.out.cellAt k (by omega), List.getElem?_append_left (by omega), ub_app, List.getElem?_append_right (by omega), hxl, Nat.sub_self]; rfl
        have hfz1 := H48.out.frozenAt k
        have h49 := (H48.out.stored k (.int .u8 49)).1
        have hset2 : (ub (P.xorL ((B s).take k) ((B t).take k) ++ [48]) ++ List.replicate (s.size - (k + 1)) (Value.int .u8 0)).set k (.int .u8 49) = ub (P.xorL ((B s).take k) ((B t).take k) ++ [49]) ++ List.replicate (s.size - (k + 1)) (.int .u8 0) := by
          rw [List.set_append_left _ _ (by omega), ub_app, List.set_append_right _ _ (by omega), hxl, Nat.sub_self, ub_app]; rfl
        rw [hset2] at h49
        have H49 := Lib.hid h49
        have hb3 := hb2.setCell (p := ⟨w.heap.size, k, none⟩) (Nat.le_refl _) (.int .u8 49)
        have HB3 := Lib.hid hb3
        clear h49 hset2 hb3
        go_quiet (fail)
        go_wp2
        go_roundw
        case rel => exact ⟨k + 1, by omega, by go_num, by rw [HX.out]; exact H49.out, below_drewN HB3.out _⟩
        case measure => simp [intOf]; omega
    · have hcv := run_str_row (P := Try.prog) (l := P.xorL ((B s).take k) ((B t).take k)) 22 9 5 Try.underlying22 Try.underlying5 Try.underlying9 (by
        have h := hown
        rw [show s.size - k = 0 by omega] at h
        simpa using h)
      have HT1 := Lib.hid (take_all s k hk2)
      have HT2 := Lib.hid (take_all t k (by omega))
      clear hown
      go_wp2
      go_ret
      exact ⟨ret_bs (by rw [HT1.out, HT2.out]), hb⟩
theorem c_flip (s : ByteArray) (i : Nat) (w : World) (hs : s.size ≤ 64) (hi : i < s.size) (hbits : (B s).all P.bitB = true) : Calls Try.prog 138 #[.string s, .int .i64 i] w fun e w' => e = .returned (.string (bs (P.flipL (B s) i))) ∧ Below w.heap.size w w' := by
  have hl := B_len s
  have hbit := P.bit_at hbits (k := i) (by rw [hl]; exact hi)
  rw [B_get s i hi] at hbit
  have hconv := Lib.run_convert_string_bytes (P := Try.prog) w 9 22 5 s Try.underlying9 Try.underlying22 Try.underlying5
  have hby := bytesWorld_bys w 5 s
  have hbw := bytesWorld_below w 5 s
  obtain ⟨W1, hW1⟩ : ∃ W1, Lib.bytesWorld w 5 s = W1 := ⟨_, rfl⟩
  obtain ⟨cap, hcap⟩ : ∃ cap, grownCap w s.size 0 5 = cap := ⟨_, rfl⟩
  rw [hW1, hcap] at hconv
  rw [hW1] at hby hbw
  obtain ⟨hc, hf⟩ := hby i (by rw [hl]; exact hi)
  rw [B_get s i hi] at hc
  have hc1 : 48 ≤ (s[i]).toNat ∧ (s[i]).toNat ≤ 49 := by
    have := P.bv_nat hbit; have := P.bv_lt (s[i]); omega
  obtain ⟨hc2, hc3⟩ := hc1
  have hset := hby.set i (P.bt (49 - (s[i]).toNat))
  have hbt : ((P.bt (49 - (s[i]).toNat)).toNat : Int) = 97 - ((s[i]).toNat : Int) := by
    rw [P.bt_nat (by omega)]; omega
  rw [hbt] at hset
  have hfl : (B s).set i (P.bt (49 - (s[i]).toNat)) = P.flipL (B s) i := by
    unfold P.flipL
    rw [B_get? s i hi]
    congr 1
    rcases (P.bitB_iff _).1 hbit with h0 | h0
    · rw [h0]; rfl
    · rw [h0]; rfl
  rw [hfl] at hset
  have hcv := run_str_bys (P := Try.prog) 22 9 5 Try.underlying22 Try.underlying5 Try.underlying9 hset 0 s.size cap (by rw [P.flipL_len, hl]; omega)
  rw [List.drop_zero, List.take_of_length_le (by rw [P.flipL_len, hl]; omega)] at hcv
  have HB := Lib.hid (hbw.setCell (p := ⟨w.heap.size, i, none⟩) (Nat.le_refl _) (.int .u8 (97 - ((s[i]).toNat : Int))))
  clear hby hset hbt hfl hbit hbw
  go_enter Try.func138, Try.ntmps138
  go_wp2
  go_ret
  exact ⟨rfl, HB.out⟩
end Go.Proofs.Ytfbanjmooknafaa
