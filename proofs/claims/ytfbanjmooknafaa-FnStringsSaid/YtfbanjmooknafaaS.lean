/-
  Contracts of the functions that split a text at a byte.
-/
import Derived.Test.YtfbanjmooknafaaW
namespace Go.Proofs.Ytfbanjmooknafaa
open Go.RowKit
set_option linter.unusedSimpArgs false
set_option linter.unusedVariables false

theorem info_string : (Try.prog.info? 9).map (fun i => (i.zero, i.size, i.bytes)) = some (some (.string ByteArray.empty), 1, 16) := by kernel_rfl
/-- what the loop of a split holds after k bytes -/
def SplRel (b : UInt8) (s : ByteArray) (k : Nat) (f : Nat) : Prop := k ≤ s.size ∧ f ≤ k ∧ ((B s).drop f).take (k - f) = (P.spF b ((B s).take k)).2
theorem spl_hit {b : UInt8} {s : ByteArray} {k f : Nat} (h : SplRel b s k f) (hk : k < s.size) (hc : s[k] = b) :
    P.spF b ((B s).take (k + 1)) = ((P.spF b ((B s).take k)).1 ++ [((B s).drop f).take (k - f)], []) ∧ SplRel b s (k + 1) (k + 1) := by
  have e := take_snoc s k hk
  rw [hc] at e
  obtain ⟨h1, h2, h3⟩ := h
  rw [e, P.spF_snoc_eq, ← h3]
  refine ⟨rfl, by omega, by omega, ?_⟩
  rw [e, P.spF_snoc_eq, Nat.sub_self]; rfl
theorem spl_miss {b : UInt8} {s : ByteArray} {k f : Nat} (h : SplRel b s k f) (hk : k < s.size) (hc : s[k] ≠ b) :
    (P.spF b ((B s).take (k + 1))).1 = (P.spF b ((B s).take k)).1 ∧ SplRel b s (k + 1) f := by
  have e := take_snoc s k hk
  obtain ⟨h1, h2, h3⟩ := h
  rw [e, P.spF_snoc_ne _ hc]
  refine ⟨rfl, by omega, by omega, ?_⟩
  rw [e, P.spF_snoc_ne _ hc]
  show _ = (P.spF b ((B s).take k)).2 ++ [s[k]]
  rw [← h3]
  have e1 : k + 1 - f = (k - f) + 1 := by omega
  have hl : k - f < ((B s).drop f).length := by rw [List.length_drop, B_len]; omega
  rw [e1, List.take_succ_eq_append_getElem hl, List.getElem_drop]
  congr 2
  have : f + (k - f) = k := by omega
  simp only [this]; rfl
theorem spl_end {b : UInt8} {s : ByteArray} {k f : Nat} (h : SplRel b s k f) (hk : ¬ k < s.size) : P.spl b (B s) = (P.spF b ((B s).take k)).1 ++ [((B s).drop f).take (s.size - f)] := by
  obtain ⟨h1, h2, h3⟩ := h
  have e : k = s.size := by omega
  subst e
  rw [h3, take_all s s.size (by omega)]; rfl
theorem spl_count {b : UInt8} (l : List UInt8) : (P.spF b l).1.length ≤ l.length := by
  rw [P.spF_len]; exact List.count_le_length

theorem c_split (s : ByteArray) (b : UInt8) (w : World) (hs : s.size ≤ 2097152) : Calls Try.prog 153 #[.string s, .int .u8 b.toNat] w (RetRow 9 w ((P.spl b (B s)).map vs)) := by
  obtain ⟨i0, hi, hz0, hz1, hz2⟩ := info_parts info_string
  go_enter Try.func153, Try.ntmps153
  go_wp2
  go_loopw [5, 6, 7] (fun v fr i wr => ∃ k f : Nat, i = .int .i64 k ∧ fr = .int .i64 f ∧ SplRel b s k f ∧ wr.ownsRow w.heap.size 9 1 v ((P.spF b ((B s).take k)).1.map vs).length ((P.spF b ((B s).take k)).1.map vs) ∧ Below w.heap.size w wr) (fun _ _ i _ => s.size - (intOf i).toNat)
  case atStart => exact ⟨0, 0, rfl, rfl, ⟨Nat.zero_le _, Nat.le_refl _, rfl⟩, World.ownsRow_nil _ _ _ _, Below.refl _ _⟩
  case round =>
    obtain ⟨k, f, rfl, rfl, hrl, hown, hb⟩ := hrel
    have hk := hrl.1
    have hf := hrl.2.1
    have hsz := hb.size
    have hlen := spl_count (b := b) ((B s).take k)
    rw [List.length_take] at hlen
    have HRL := Lib.hid hrl
    clear hrl
    by_cases hlt : k < s.size
    · have hbb : (s[k]).toNat < 256 := s[k].toNat_lt
      by_cases hc : s[k] = b
      · have he : (((s[k]).toNat : Int) == (b.toNat : Int)) = true := beq_iff_eq.2 (by rw [hc])
        have HN := Lib.hid (spl_hit HRL.out hlt hc)
        clear hc
        go_wp2_with (at_builtin; refine wpList_append_own _ rfl _ _ 40 rfl w.heap.size 9 i0 (.string ByteArray.empty) 1 16 Try.underlying40 hi hz0 hz1 hz2 rfl (by decide) _ _ _ rfl (hown.alloc _) ⟨wr.heap.size, 0, none⟩ 1 1 [.string (s.extract f k)] rfl rfl (one_new _ _ _) ?c2 ?c3 ?c4 ?c5 ?_)
        case c2 => intro u hu; simp at hu; subst hu; rfl
        case c3 => unfold maxLen; rw [List.length_map]; omega
        case c4 => rw [List.length_map]; omega
        case c5 => simp; omega
        intro v1 w1 hown1 hg1 _
        have hb1 := below_app hb hsz hown hg1
        have HO := Lib.hid (show w1.ownsRow w.heap.size 9 1 v1 ((P.spF b ((B s).take (k + 1))).1.map vs).length ((P.spF b ((B s).take (k + 1))).1.map vs) by
          rw [HN.out.1, List.map_append, List.map_cons, List.map_nil, ← vs_cut, List.length_append, List.length_map]; exact hown1)
        clear hown1 hg1 hown hb
        go_wp2
        go_roundw
        case rel => exact ⟨k + 1, k + 1, by go_num, by go_num, HN.out.2, HO.out, hb1⟩
        case measure => simp [intOf]; omega
      · have he : (((s[k]).toNat : Int) == (b.toNat : Int)) = false := beq_eq_false_iff_ne.2 (fun e => hc (UInt8.toNat_inj.1 (by omega)))
        have HN := Lib.hid (spl_miss HRL.out hlt hc)
        clear hc
        go_wp2
        go_roundw
        case rel => exact ⟨k + 1, f, by go_num, rfl, HN.out.2, by rw [HN.out.1]; exact hown, hb⟩
        case measure => simp [intOf]; omega
    · have HE := Lib.hid (spl_end HRL.out hlt)
      go_wp2_with (at_builtin; refine wpList_append_own _ rfl _ _ 40 rfl w.heap.size 9 i0 (.string ByteArray.empty) 1 16 Try.underlying40 hi hz0 hz1 hz2 rfl (by decide) _ _ _ rfl (hown.alloc _) ⟨wr.heap.size, 0, none⟩ 1 1 [.string (s.extract f s.size)] rfl rfl (one_new _ _ _) ?d2 ?d3 ?d4 ?d5 ?_)
      case d2 => intro u hu; simp at hu; subst hu; rfl
      case d3 => unfold maxLen; rw [List.length_map]; omega
      case d4 => rw [List.length_map]; omega
      case d5 => simp; omega
      intro v1 w1 hown1 hg1 _
      have hb1 := below_app hb hsz hown hg1
      have HO := Lib.hid (show w1.ownsRow w.heap.size 9 1 v1 ((P.spl b (B s)).map vs).length ((P.spl b (B s)).map vs) by
        rw [HE.out, List.map_append, List.map_cons, List.map_nil, ← vs_cut, List.length_append, List.length_map]; exact hown1)
      clear hown1 hg1 hown hb
      go_wp2
      go_ret
      exact ret_row rfl (by rw [HE.out]; simp) HO.out hb1
theorem c_l1Split (s : ByteArray) (b : UInt8) (w : World) (hs : s.size ≤ 2097152) : Calls Try.prog 214 #[.string s, .int .u8 b.toNat] w (RetRow 9 w ((P.spl b (B s)).map vs)) := by
  obtain ⟨i0, hi, hz0, hz1, hz2⟩ := info_parts info_string
  go_enter Try.func214, Try.ntmps214
  go_wp2
  go_loopw [5, 6, 7] (fun v fr i wr => ∃ k f : Nat, i = .int .i64 k ∧ fr = .int .i64 f ∧ SplRel b s k f ∧ wr.ownsRow w.heap.size 9 1 v ((P.spF b ((B s).take k)).1.map vs).length ((P.spF b ((B s).take k)).1.map vs) ∧ Below w.heap.size w wr) (fun _ _ i _ => s.size - (intOf i).toNat)
  case atStart => exact ⟨0, 0, rfl, rfl, ⟨Nat.zero_le _, Nat.le_refl _, rfl⟩, World.ownsRow_made _ _ _ (Nat.le_refl _) (by unfold maxLen; omega) rfl, (Below.refl _ _).alloc (Nat.le_refl _) _⟩
  case round =>
    obtain ⟨k, f, rfl, rfl, hrl, hown, hb⟩ := hrel
    have hk := hrl.1
    have hf := hrl.2.1
    have hsz := hb.size
    have hlen := spl_count (b := b) ((B s).take k)
    rw [List.length_take] at hlen
    have HRL := Lib.hid hrl
    clear hrl
    by_cases hlt : k < s.size
    · have hbb : (s[k]).toNat < 256 := s[k].toNat_lt
      by_cases hc : s[k] = b
      · have he : (((s[k]).toNat : Int) == (b.toNat : Int)) = true := beq_iff_eq.2 (by rw [hc])
        have HN := Lib.hid (spl_hit HRL.out hlt hc)
        clear hc
        go_wp2_with (at_builtin; refine wpList_append_own _ rfl _ _ 40 rfl w.heap.size 9 i0 (.string ByteArray.empty) 1 16 Try.underlying40 hi hz0 hz1 hz2 rfl (by decide) _ _ _ rfl (hown.alloc _) ⟨wr.heap.size, 0, none⟩ 1 1 [.string (s.extract f k)] rfl rfl (one_new _ _ _) ?a2 ?a3 ?a4 ?a5 ?_)
        case a2 => intro u hu; simp at hu; subst hu; rfl
        case a3 => unfold maxLen; rw [List.length_map]; omega
        case a4 => rw [List.length_map]; omega
        case a5 => simp; omega
        intro v1 w1 hown1 hg1 _
        have hb1 := below_app hb hsz hown hg1
        have HO := Lib.hid (show w1.ownsRow w.heap.size 9 1 v1 ((P.spF b ((B s).take (k + 1))).1.map vs).length ((P.spF b ((B s).take (k + 1))).1.map vs) by
          rw [HN.out.1, List.map_append, List.map_cons, List.map_nil, ← vs_cut, List.length_append, List.length_map]; exact hown1)
        clear hown1 hg1 hown hb
        go_wp2
        go_roundw
        case rel => exact ⟨k + 1, k + 1, by go_num, by go_num, HN.out.2, HO.out, hb1⟩
        case measure => simp [intOf]; omega
      · have he : (((s[k]).toNat : Int) == (b.toNat : Int)) = false := beq_eq_false_iff_ne.2 (fun e => hc (UInt8.toNat_inj.1 (by omega)))
        have HN := Lib.hid (spl_miss HRL.out hlt hc)
        clear hc
        go_wp2
        go_roundw
        case rel => exact ⟨k + 1, f, by go_num, rfl, HN.out.2, by rw [HN.out.1]; exact hown, hb⟩
        case measure => simp [intOf]; omega
    · have HE := Lib.hid (spl_end HRL.out hlt)
      go_wp2_with (at_builtin; refine wpList_append_own _ rfl _ _ 40 rfl w.heap.size 9 i0 (.string ByteArray.empty) 1 16 Try.underlying40 hi hz0 hz1 hz2 rfl (by decide) _ _ _ rfl (hown.alloc _) ⟨wr.heap.size, 0, none⟩ 1 1 [.string (s.extract f s.size)] rfl rfl (one_new _ _ _) ?b2 ?b3 ?b4 ?b5 ?_)
      case b2 => intro u hu; simp at hu; subst hu; rfl
      case b3 => unfold maxLen; rw [List.length_map]; omega
      case b4 => rw [List.length_map]; omega
      case b5 => simp; omega
      intro v1 w1 hown1 hg1 _
      have hb1 := below_app hb hsz hown hg1
      have HO := Lib.hid (show w1.ownsRow w.heap.size 9 1 v1 ((P.spl b (B s)).map vs).length ((P.spl b (B s)).map vs) by
        rw [HE.out, List.map_append, List.map_cons, List.map_nil, ← vs_cut, List.length_append, List.length_map]; exact hown1)
      clear hown1 hg1 hown hb
      go_wp2
      go_ret
      exact ret_row rfl (by rw [HE.out]; simp) HO.out hb1
theorem c_l1Stands (s : ByteArray) (b : UInt8) (w : World) (hs : s.size ≤ maxLen) : Calls Try.prog 155 #[.string s, .int .u8 b.toNat] w fun e w' => e = .returned (.bool (P.hasB b (B s))) ∧ w = w' := by
  unfold maxLen at hs
  have hl := B_len s
  go_enter Try.func155, Try.ntmps155
  go_wp2
  go_loop [5] (fun i => ∃ k : Nat, k ≤ s.size ∧ i = .int .i64 k ∧ b ∉ (B s).take k) (fun i => s.size - (intOf i).toNat)
  case atStart => exact ⟨0, Nat.zero_le _, rfl, by simp⟩
  case round =>
    obtain ⟨k, hk, rfl, hn⟩ := hrel
    have HN := Lib.hid hn
    clear hn
    by_cases hlt : k < s.size
    · by_cases hc : s[k] = b
      · have he : (((s[k]).toNat : Int) == (b.toNat : Int)) = true := beq_iff_eq.2 (by rw [hc])
        have HR := Lib.hid (show P.hasB b (B s) = true by rw [P.hasB_iff, ← hc]; exact List.mem_of_getElem? (B_get? s k hlt))
        clear hc
        go_wp2
        go_ret
        exact ⟨ret_bool HR.out.symm, rfl⟩
      · have he : (((s[k]).toNat : Int) == (b.toNat : Int)) = false := beq_eq_false_iff_ne.2 (fun e => hc (UInt8.toNat_inj.1 (by omega)))
        have HN' := Lib.hid (show b ∉ (B s).take (k + 1) by
          rw [take_snoc s k hlt, List.mem_append, List.mem_singleton, not_or]; exact ⟨HN.out, fun e => hc e.symm⟩)
        clear hc
        go_wp2
        go_round
        case rel => exact ⟨k + 1, by omega, by go_num, HN'.out⟩
        case measure => simp [intOf]; omega
    · have HR := Lib.hid (show P.hasB b (B s) = false by
        have := HN.out; rw [take_all s k hlt] at this; exact P.hasB_no.2 this)
      go_wp2
      go_ret
      exact ⟨ret_bool HR.out.symm, rfl⟩

end Go.Proofs.Ytfbanjmooknafaa
