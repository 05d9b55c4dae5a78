/-
  Contracts of the functions on parities as the program computes them: by a long division.
-/
import Derived.Test.YtfbanjmooknafaaQ
import Derived.Lib.OthersKept
import Derived.Laws.RangeString
import Derived.Deep.RegionLaw
import Derived.Lib.SlBuf
namespace Go.Proofs.Ytfbanjmooknafaa
open Go.RowKit
set_option linter.unusedSimpArgs false
set_option linter.unusedVariables false
set_option maxRecDepth 100000

theorem bits0 : P.bitsL 0 12 = P.zeros 12 := by decide
theorem bys_iter {w : World} {g k p : Nat} {s : ByteArray} {l : List UInt8} (h : Bys w g l) (hk : g ≠ k) : Bys (w.iterAt k s p) g l := fun j hj => by
  have h1 := Lib.iterAt_other w k g s p hk
  obtain ⟨a, b⟩ := h j hj
  unfold World.cell? World.frozen? at *
  rw [h1]; exact ⟨a, b⟩
theorem setCells_other {g k : Nat} (h : k ≠ g) : ∀ (vs : List Value) (o : Nat) (w : World), (w.setCells g o vs).heap[k]? = w.heap[k]?
  | [], _, _ => rfl
  | v :: r, o, w => by
    show ((w.setCell ⟨g, o, none⟩ v).setCells g (o + 1) r).heap[k]? = _
    rw [setCells_other h r (o + 1) _]
    exact Below.heap_setCell w ⟨g, o, none⟩ v k h
theorem below_sc {M b : Nat} {a : World} (hb : M ≤ b) : ∀ (vs : List Value) (o : Nat) (w : World), Below M a w → Below M a (w.setCells b o vs)
  | [], _, _, h => h
  | v :: r, o, w, h => below_sc hb r (o + 1) _ (h.setCell (by exact hb) v)
theorem bit_ascii {l : List UInt8} (h : l.all P.bitB = true) {k : Nat} (hk : k < l.length) : 48 ≤ (l[k]).toNat ∧ (l[k]).toNat ≤ 49 := by
  have h1 := P.bv_nat (P.bit_at h hk)
  have h2 := P.bv_lt l[k]
  omega
theorem divA_next {s : List UInt8} {k : Nat} : P.divA s (k + 1) = P.divStep (P.divA s k) k := rfl
theorem divStep_yes {A : List UInt8} {i : Nat} (h : A[i]? = some 49) : P.divStep A i = A.take i ++ (P.xorL ((A.drop i).take 13) P.divL ++ A.drop (i + 13)) := if_pos h
theorem divStep_no {A : List UInt8} {i : Nat} (h : ¬ A[i]? = some 49) : P.divStep A i = A := if_neg h
theorem c_parityOf (s : ByteArray) (w : World) (hs : s.size ≤ 64) (hbits : (B s).all P.bitB = true) : Calls Try.prog 148 #[.string s] w fun e w' => e = .returned (.string (bs (P.bitsL (P.parN (B s)) 12))) ∧ Below w.heap.size w w' := by
  have hl := B_len s
  obtain ⟨z, hz⟩ : ∃ z, bs (B s ++ P.bitsL 0 12) = z := ⟨_, rfl⟩
  have hadd : ∀ W, (Op.stringOp .add s (bs (P.bitsL 0 12))).run Try.prog W = .ok (.string z) W := fun W => by
    rw [← hz]; exact run_add_s W s _ (by rw [B_bs, P.bitsL_len]; omega)
  have HZ := Lib.hid (show B z = P.divA (B s) 0 by rw [← hz, bits0]; rfl)
  have hzs : z.size = s.size + 12 := by rw [← B_len, HZ.out, P.divA_len hbits (Nat.zero_le _), hl]
  have HBITS := Lib.hid hbits
  clear hz hbits
  go_enter Try.func148, Try.ntmps148
  go_wp2_with fail
  refine (c_bitsOf 0 12 _ (by omega) (by omega)).mono ?_
  rintro e w1 ⟨rfl, hb1⟩
  have hconv := Lib.run_convert_string_bytes (P := Try.prog) w1 9 22 5 z Try.underlying9 Try.underlying22 Try.underlying5
  have hby := bytesWorld_bys w1 5 z
  have hbw := bytesWorld_below w1 5 z
  obtain ⟨W1, hW1⟩ : ∃ W1, Lib.bytesWorld w1 5 z = W1 := ⟨_, rfl⟩
  obtain ⟨cap, hcap⟩ : ∃ cap, grownCap w1 z.size 0 5 = cap := ⟨_, rfl⟩
  have hcz : z.size ≤ cap := by rw [← hcap]; exact grownCap_ge w1 z.size 0 5
  rw [hW1, hcap] at hconv
  rw [hW1] at hby hbw
  rw [HZ.out] at hby
  have HBY := Lib.hid hby
  have HZS := Lib.hid hzs
  have hg1 : w1.heap.size < W1.heap.size := HBY.out.lt (by rw [P.divA_len HBITS.out (Nat.zero_le _)]; omega)
  have hbW := hb1.trans (hbw.mono hb1.size)
  have hgw := hb1.size
  obtain ⟨g, hg⟩ : ∃ g, w1.heap.size = g := ⟨_, rfl⟩
  rw [hg] at hconv HBY hg1 hgw
  clear hby hzs hW1 hcap hbw
  go_wp2
  have hit : (W1.iter s 0).heap[W1.heap.size]? = some (.stringIter s 0) := World.iter_heap W1 s 0
  have hbi : Below w.heap.size w (W1.iter s 0) := hbW.alloc (Nat.le_trans hgw (Nat.le_of_lt hg1)) _
  have HBI := Lib.hid (show Bys (W1.iter s 0) g (P.divA (B s) 0) from HBY.out.below ((Below.refl _ _).alloc (Nat.le_refl _) _))
  obtain ⟨it, hI⟩ : ∃ it, W1.heap.size = it := ⟨_, rfl⟩
  rw [hI] at hg1 hit ⊢
  obtain ⟨W2, hW2⟩ : ∃ W2, W1.iter s 0 = W2 := ⟨_, rfl⟩
  rw [hW2] at hit hbi HBI ⊢
  have HIT := Lib.hid hit
  clear hit hI hW2 hg hconv hadd
  go_loopw [4] (fun _ wr => ∃ pos : Nat, pos ≤ s.size ∧ wr.heap[it]? = some (.stringIter s pos) ∧ Bys wr g (P.divA (B s) pos) ∧ Below w.heap.size w wr) (fun _ wr => s.size - wr.iterPos it)
  case atStart => exact ⟨0, Nat.zero_le _, HIT.out, HBI.out, hbi⟩
  case round =>
    obtain ⟨pos, hp, hk, hbys, hb⟩ := hrel
    have HK := Lib.hid hk
    have HBYS := Lib.hid hbys
    have hdl := P.divA_len (s := B s) HBITS.out (i := pos) (by omega)
    have hdb := P.divA_bits (s := B s) HBITS.out (i := pos) (by omega)
    clear hbys
    by_cases hlt : pos < s.size
    · have has : (s[pos]'hlt).toNat < 128 := by have := bit_ascii HBITS.out (k := pos) (by omega); rw [B_get s pos hlt] at this; omega
      have hnx := fun ty => Lib.run_next_ascii_at (P := Try.prog) wr it s pos ty hk hlt has
      obtain ⟨W3, hW3⟩ : ∃ W3, wr.iterAt it s (pos + 1) = W3 := ⟨_, rfl⟩
      have HB3 := Lib.hid (show Bys W3 g (P.divA (B s) pos) by rw [← hW3]; exact bys_iter HBYS.out (by omega))
      have HI3 := Lib.hid (show W3.heap[it]? = some (.stringIter s (pos + 1)) by rw [← hW3]; exact Lib.iterAt_heap wr it s pos (pos + 1) HK.out)
      have hb3 : Below w.heap.size w W3 := by rw [← hW3]; exact Lib.below_iterAt hb (by omega) s (pos + 1)
      rw [hW3] at hnx
      obtain ⟨L, hL⟩ : ∃ L, P.divA (B s) pos = L := ⟨_, rfl⟩
      rw [hL] at HB3 hdl hdb
      have HL := Lib.hid hL
      obtain ⟨c, hc⟩ : ∃ c, L[pos]'(by omega) = c := ⟨_, rfl⟩
      have hcell := (HB3.out pos (by omega)).1
      rw [hc] at hcell
      have hgl : L[pos]? = some c := by rw [List.getElem?_eq_getElem (by omega), hc]
      have HGL := Lib.hid hgl
      have hpz : pos < z.size := by rw [HZS.out]; omega
      have hp13 : pos + 13 ≤ z.size := by rw [HZS.out]; omega
      have hzl : z.size = L.length := by rw [HZS.out, hdl, hl]
      have HZL := Lib.hid hzl
      clear hk hL hW3 hgl hc hzl hdl
      by_cases h49 : c = 49
      · have e1 : ((c.toNat : Int) == 49) = true := by rw [h49]; rfl
        have HN := Lib.hid (show P.divA (B s) (pos + 1) = L.take pos ++ (P.xorL ((L.drop pos).take 13) P.divL ++ L.drop (pos + 13)) by
          rw [divA_next, HL.out, divStep_yes (by rw [HGL.out, h49])])
        clear h49
        obtain ⟨x, hx⟩ : ∃ x, bs ((L.drop pos).take 13) = x := ⟨_, rfl⟩
        have hxs : x.size = 13 := by rw [← hx, bs_size, List.length_take, List.length_drop, ← HZL.out]; omega
        have HXB := Lib.hid (show B x = (L.drop pos).take 13 by rw [← hx]; rfl)
        have HX := Lib.hid hx
        have HXS := Lib.hid (show x.size ≤ 64 ∧ (bs P.divL).size = x.size from ⟨by omega, by rw [hxs]; rfl⟩)
        clear hx hxs
        have hw1 : IntKind.i64.wrap ((pos : Int) + 13) = (pos : Int) + 13 := IntWalk.i64_in _ (by omega)
        have hn1 : ((pos : Int) + 13).toNat = pos + 13 := by omega
        have hp1 : 0 ≤ (pos : Int) + 13 := by omega
        have hp2 : (pos : Int) ≤ (pos : Int) + 13 := by omega
        have hp3 : (pos : Int) + 13 ≤ (cap : Int) := by omega
        have hp4 : (pos : Int) ≤ (z.size : Int) := by omega
        have hp5 : 0 ≤ (pos : Int) := by omega
        have hp6 : ¬ cap = pos := by omega
        go_wp2_with fail
        have hcv := run_str_bys (P := Try.prog) 22 9 5 Try.underlying22 Try.underlying5 Try.underlying9 (show Bys W3.drew g L from HB3.out) pos 13 (cap - pos) (by rw [← HZL.out]; omega)
        rw [HX.out] at hcv
        obtain ⟨y, hy⟩ : ∃ y, P.xorL (B x) (B ⟨#[49, 49, 48, 48, 48, 48, 48, 48, 48, 49, 49, 49, 49]⟩) = y := ⟨_, rfl⟩
        have hyl : y.length = 13 := by
          have h1 := HXS.out.2
          have h2 : (bs P.divL).size = 13 := rfl
          rw [← hy, P.xorL_len (by rw [B_len, ← h1]; rfl), B_len, ← h1, h2]
        have HXC := Lib.hid (fun W => (c_xorBits x ⟨#[49, 49, 48, 48, 48, 48, 48, 48, 48, 49, 49, 49, 49]⟩ W HXS.out.1 HXS.out.2))
        rw [hy] at HXC
        have HY := Lib.hid (show P.xorL ((L.drop pos).take 13) P.divL = y by rw [← hy, HXB.out]; rfl)
        have HYL := Lib.hid hyl
        clear hy hyl
        go_region_law (first
          | (refine step_copy_string (P := Try.prog) rfl (.tmp 21) (.tmp 28) 22 9 rfl 5 Try.underlying22 (fun w => by kernel_rfl) g pos (z.size - pos) (cap - pos) (by simp [Act.eval, Act.put]) (bs y) (by simp [Act.eval, Act.put]) (by rw [bs_size, HYL.out]; omega) (fun j hj => by rw [bs_size, HYL.out] at hj; rw [(HB5.out (pos + j) (by rw [← HZL.out]; omega)).1]; rfl) (fun j hj => by rw [bs_size, HYL.out] at hj; exact (HB5.out (pos + j) (by rw [← HZL.out]; omega)).2) ?_)
          | (go_simp; go_at_call 142; refine (HXC.out _).mono ?_; rintro e w5 ⟨rfl, hb5⟩; have HB5 := Lib.hid (Bys.below (show Bys W3.drew g L from HB3.out) hb5)))
        have hsp := HB5.out.splice (o := pos) (m := y) (by rw [HYL.out, ← HZL.out]; omega)
        rw [HYL.out] at hsp
        have HSP := Lib.hid hsp
        have hb5' := hb3.trans (Below.mono (show Below W3.heap.size W3 w5 from ⟨hb5.os, hb5.tape, hb5.output, hb5.size, hb5.block⟩) hb3.size)
        have hbc : Below w.heap.size w (w5.setCells g pos (ub y)) := below_sc hgw (ub y) pos w5 hb5'
        have HIC := Lib.hid (show (w5.setCells g pos (ub y)).heap[it]? = some (.stringIter s (pos + 1)) by
          rw [setCells_other (by omega) (ub y) pos w5, hb5.block it (Array.getElem?_eq_some_iff.1 HI3.out).1]; exact HI3.out)
        clear hsp
        change Exit.inBlock _ _ _ _ (w5.setCells g pos (ub y))
        generalize hW6 : w5.setCells g pos (ub y) = W6 at *
        clear hW6
        go_simp
        refine ⟨⟨_, _, _, _, _, _, _, _, _, _, _, _, _, _, _, _, _, _, _, _, ⟨pos + 1, by omega, HIC.out, by rw [HN.out, HY.out]; exact HSP.out, hbc⟩, rfl⟩, ?_⟩
        simp [World.iterPos, HIC.out, HK.out]; omega
      · have e1 : ((c.toNat : Int) == 49) = false := beq_eq_false_iff_ne.2 (fun e => h49 (UInt8.toNat_inj.1 (by show _ = 49; omega)))
        have HN := Lib.hid (show P.divA (B s) (pos + 1) = L by
          rw [divA_next, HL.out, divStep_no (by rw [HGL.out]; intro e; injection e with e; exact h49 e)])
        clear h49
        go_wp2
        go_roundw
        case rel => exact ⟨pos + 1, by omega, HI3.out, by rw [HN.out]; exact HB3.out, hb3⟩
        case measure => simp [World.iterPos, HI3.out, HK.out]; omega
    · have hnx := fun ty => Lib.run_next_end_at (P := Try.prog) wr it s pos ty hk hlt
      have hcv := run_str_bys (P := Try.prog) 22 9 5 Try.underlying22 Try.underlying5 Try.underlying9 HBYS.out s.size (z.size - s.size) (cap - s.size) (by rw [hdl, HZS.out, hl]; omega)
      have hsz : s.size ≤ z.size := by rw [HZS.out]; omega
      have hsc : ¬ cap = s.size := by have := HZS.out; omega
      have hpe : pos = s.size := by omega
      have HE := Lib.hid (show (((P.divA (B s) pos).drop s.size).take (z.size - s.size)) = P.bitsL (P.parN (B s)) 12 by
        rw [List.take_of_length_le (by rw [List.length_drop, hdl, hl, HZS.out]; omega), hpe, ← hl, P.divA_end HBITS.out])
      clear hpe hdl hdb
      go_wp2
      go_ret
      exact ⟨ret_bs HE.out, hb⟩
end Go.Proofs.Ytfbanjmooknafaa
