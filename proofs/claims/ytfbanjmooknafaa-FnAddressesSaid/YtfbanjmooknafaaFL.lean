/-
  Contracts of FramesOf and AddressesOf.
-/
import Derived.Test.YtfbanjmooknafaaV
import Derived.Test.YtfbanjmooknafaaG
import Derived.Test.YtfbanjmooknafaaQV
import Derived.Test.YtfbanjmooknafaaDP
import Derived.Test.YtfbanjmooknafaaPlain5
import Derived.Lib.SmallJoins
import Derived.Laws.CopyOwn
namespace Go.Proofs.Ytfbanjmooknafaa
open Go.RowKit
set_option linter.unusedSimpArgs false
set_option linter.unusedVariables false
set_option maxRecDepth 100000

/-- frames as cells -/
def fcell (f : P.Fr) : List Value := [.int .i64 f.1, .int .i64 f.2.1, .int .i64 f.2.2]
def fcs : List P.Fr → List Value
  | [] => []
  | f :: t => .int .i64 f.1 :: .int .i64 f.2.1 :: .int .i64 f.2.2 :: fcs t
theorem fcs_len (fs : List P.Fr) : (fcs fs).length = 3 * fs.length := by
  induction fs with
  | nil => rfl
  | cons f t ih => simp only [fcs, List.length_cons, ih]; omega
theorem fcs_app (a b : List P.Fr) : fcs (a ++ b) = fcs a ++ fcs b := by
  induction a with
  | nil => rfl
  | cons f t ih => simp only [List.cons_append, fcs, ih]
theorem fcs_at : ∀ {fs : List P.Fr} {k : Nat} {f : P.Fr}, fs[k]? = some f → (fcs fs)[k * 3]? = some (.int .i64 f.1) ∧ (fcs fs)[k * 3 + 1]? = some (.int .i64 f.2.1) ∧ (fcs fs)[k * 3 + 2]? = some (.int .i64 f.2.2) := by
  intro fs
  induction fs with
  | nil => intro k f h; simp at h
  | cons x t ih =>
    intro k f h
    cases k with
    | zero =>
      simp at h
      subst h
      exact ⟨rfl, rfl, rfl⟩
    | succ k =>
      rw [List.getElem?_cons_succ] at h
      obtain ⟨h1, h2, h3⟩ := ih h
      rw [show (k + 1) * 3 = k * 3 + 1 + 1 + 1 by omega]
      simp only [fcs]
      refine ⟨?_, ?_, ?_⟩
      · simpa using h1
      · simpa [Nat.add_assoc] using h2
      · simpa [Nat.add_assoc] using h3
theorem fcs_ne {fs : List P.Fr} (h : 0 < fs.length) : fcs fs ≠ [] := fun e => by
  have := fcs_len fs
  rw [e] at this; simp at this; omega
theorem fcells {w : World} {A : Option Addr} {fs : List P.Fr} (h : Holds w A (fcs fs)) {k : Nat} (hk : k < fs.length) : ∃ (g o : Nat), A = some ⟨g, o, none⟩ ∧ w.cell? ⟨g, o + k * 3, none⟩ = some (.int .i64 (fs[k]).1) ∧ w.cell? ⟨g, o + k * 3 + 1, none⟩ = some (.int .i64 (fs[k]).2.1) ∧ w.cell? ⟨g, o + k * 3 + 2, none⟩ = some (.int .i64 (fs[k]).2.2) := by
  obtain ⟨g, o, hA, hc⟩ := h (fcs_ne (by omega))
  obtain ⟨h1, h2, h3⟩ := fcs_at (List.getElem?_eq_getElem hk)
  exact ⟨g, o, hA, hc _ _ h1, by have := hc _ _ h2; rwa [← Nat.add_assoc] at this, by have := hc _ _ h3; rwa [← Nat.add_assoc] at this⟩
def fB (f : P.Fr) : Bool := frOk f.1 f.2.1 f.2.2
theorem fsOk_eq (fs : List P.Fr) : P.fsOk fs = (decide (fs.length ≤ 20) && fs.all fB) := rfl
theorem fs_long {fs : List P.Fr} (h : 20 < fs.length) : P.fsOk fs = false := by rw [fsOk_eq, decide_eq_false (by omega)]; rfl
theorem fs_bad {fs : List P.Fr} {k : Nat} (hk : k < fs.length) (h : fB fs[k] = false) : P.fsOk fs = false := by
  have : fs.all fB = false := by
    rw [Bool.eq_false_iff]; intro e
    have := List.all_eq_true.1 e _ (List.getElem_mem hk)
    rw [h] at this; cases this
  rw [fsOk_eq, this, Bool.and_false]
theorem fs_good {fs : List P.Fr} (h : fs.length ≤ 20) (ha : ∀ k (hk : k < fs.length), fB fs[k] = true) : P.fsOk fs = true := by
  rw [fsOk_eq, decide_eq_true h, Bool.true_and, List.all_eq_true]
  intro f hf
  obtain ⟨k, hk, rfl⟩ := List.getElem_of_mem hf
  exact ha k hk
theorem fall_snoc {fs : List P.Fr} {k : Nat} {f : P.Fr} (h : ∀ j (hj : j < fs.length), j < k → fB fs[j] = true) (hk : k < fs.length) (hf : fs[k] = f) (ho : fB f = true) : ∀ j (hj : j < fs.length), j < k + 1 → fB fs[j] = true := fun j hj hjk => by
  rcases Nat.lt_or_ge j k with h1 | h1
  · exact h j hj h1
  · have e : j = k := by omega
    subst e; rw [hf]; exact ho
theorem c_areFrames (A : Option Addr) (n c : Nat) (fs : List P.Fr) (w : World) (hl : fs.length = n) (hn : n ≤ maxLen) (h : Holds w A (fcs fs)) : Calls Try.prog 182 #[.slice A n c] w fun e w' => e = .returned (.bool (P.fsOk fs)) ∧ Below w.heap.size w w' := by
  unfold maxLen at hn
  have HL := Lib.hid hl
  have HH := Lib.hid h
  clear h hl
  by_cases h20 : 20 < n
  · have HR := Lib.hid (fs_long (by rw [HL.out]; exact h20))
    go_enter Try.func182, Try.ntmps182
    go_wp2
    go_ret
    exact ⟨ret_bool HR.out.symm, Below.refl _ _⟩
  · have h20' : n ≤ 20 := by omega
    go_enter Try.func182, Try.ntmps182
    go_wp2
    go_loopw [10] (fun i wr => ∃ k : Nat, k ≤ n ∧ i = .int .i64 k ∧ (∀ j (hj : j < fs.length), j < k → fB fs[j] = true) ∧ Below w.heap.size w wr) (fun i _ => n - (intOf i).toNat)
    case atStart => exact ⟨0, Nat.zero_le _, rfl, fun j _ h => absurd h (by omega), Below.refl _ _⟩
    case round =>
      obtain ⟨k, hk, rfl, hall, hb⟩ := hrel
      have HALL := Lib.hid hall
      clear hall
      by_cases hlt : k < n
      · have hlf : k < fs.length := by rw [HL.out]; exact hlt
        have HLF := Lib.hid hlf
        clear hlf
        obtain ⟨g, o, rfl, k0, k1, k2⟩ := fcells HH.out (k := k) (by rw [HL.out]; exact hlt)
        obtain ⟨f, hf⟩ : ∃ f, fs[k]'(by rw [HL.out]; exact hlt) = f := ⟨_, rfl⟩
        rw [hf] at k0 k1 k2
        obtain ⟨x, y, z⟩ := f
        simp only at k0 k1 k2
        have HF := Lib.hid hf
        have hgl := World.block_lt_of_cell? w _ k0
        have j0 := (hb.cell (p := ⟨g, o + k * 3, none⟩) hgl).trans k0
        have j1 := (hb.cell (p := ⟨g, o + k * 3 + 1, none⟩) hgl).trans k1
        have j2 := (hb.cell (p := ⟨g, o + k * 3 + 2, none⟩) hgl).trans k2
        clear k0 k1 k2 hf
        have hA := (Below.refl (wr).heap.size wr).alloc (Nat.le_refl _) (.cells #[.int .i64 x, .int .i64 y, .int .i64 z] 57)
        have hX := Box.new wr x y z 57
        obtain ⟨W1, hW⟩ : ∃ W, (wr).alloc (.cells #[.int .i64 x, .int .i64 y, .int .i64 z] 57) = W := ⟨_, rfl⟩
        rw [hW] at hA hX
        have XF := Lib.hid hX
        have hB := (hb).trans (hA.mono (hb).size)
        clear hX
        obtain ⟨⟨q0, q1, q2⟩, _, _, _⟩ := XF.out
        obtain ⟨b, ho⟩ : ∃ b, frOk x y z = b := ⟨_, rfl⟩
        have HO := Lib.hid ho
        clear ho
        go_wp2_with fail
        clear hW q0 q1 q2
        refine (c_implIsValidFrame x y z _).mono ?_
        rintro e w2 ⟨rfl, hb2⟩
        rw [HO.out]
        have hB2 := hB.trans (hb2.mono hB.size)
        cases b with
        | false =>
          have HR := Lib.hid (fs_bad HLF.out (show fB (fs[k]'HLF.out) = false by rw [HF.out]; exact HO.out))
          go_wp2
          go_ret
          exact ⟨ret_bool HR.out.symm, hB2⟩
        | true =>
          go_wp2
          go_roundw
          case rel => exact ⟨k + 1, by omega, by go_num, fall_snoc HALL.out HLF.out HF.out HO.out, hB2⟩
          case measure => simp [intOf]; omega
      · have HR := Lib.hid (fs_good (fs := fs) (by rw [HL.out]; exact h20') (fun j hj => HALL.out j hj (by have := HL.out; omega)))
        go_wp2
        go_ret
        exact ⟨ret_bool HR.out.symm, hb⟩
theorem c_l5List (A : Option Addr) (n c : Nat) (fs : List P.Fr) (w : World) (hl : fs.length = n) (hn : n ≤ maxLen) (h : Holds w A (fcs fs)) : Calls Try.prog 184 #[.slice A n c] w fun e w' => e = .returned (.bool (P.fsOk fs)) ∧ Below w.heap.size w w' := by
  unfold maxLen at hn
  have HL := Lib.hid hl
  have HH := Lib.hid h
  clear h hl
  go_enter Try.func184, Try.ntmps184
  go_wp2
  go_loopw [3] (fun i wr => ∃ k : Nat, k ≤ n ∧ k ≤ 21 ∧ i = .int .i64 k ∧ (∀ j (hj : j < fs.length), j < k → fB fs[j] = true) ∧ Below w.heap.size w wr) (fun i _ => n - (intOf i).toNat)
  case atStart => exact ⟨0, Nat.zero_le _, by omega, rfl, fun j _ h => absurd h (by omega), Below.refl _ _⟩
  case round =>
    obtain ⟨k, hk, hk21, rfl, hall, hb⟩ := hrel
    have HALL := Lib.hid hall
    clear hall
    by_cases hlt : k < n
    · by_cases h20 : k ≤ 20
      · have hlf : k < fs.length := by rw [HL.out]; exact hlt
        have HLF := Lib.hid hlf
        clear hlf
        obtain ⟨g, o, rfl, k0, k1, k2⟩ := fcells HH.out (k := k) (by rw [HL.out]; exact hlt)
        obtain ⟨f, hf⟩ : ∃ f, fs[k]'(by rw [HL.out]; exact hlt) = f := ⟨_, rfl⟩
        rw [hf] at k0 k1 k2
        obtain ⟨x, y, z⟩ := f
        simp only at k0 k1 k2
        have HF := Lib.hid hf
        have hgl := World.block_lt_of_cell? w _ k0
        have j0 := (hb.cell (p := ⟨g, o + k * 3, none⟩) hgl).trans k0
        have j1 := (hb.cell (p := ⟨g, o + k * 3 + 1, none⟩) hgl).trans k1
        have j2 := (hb.cell (p := ⟨g, o + k * 3 + 2, none⟩) hgl).trans k2
        clear k0 k1 k2 hf
        obtain ⟨b, ho⟩ : ∃ b, frOk x y z = b := ⟨_, rfl⟩
        have HO := Lib.hid ho
        clear ho
        go_wp2_with fail
        refine (c_l5Good x y z _).mono ?_
        rintro e w2 ⟨rfl, hb2⟩
        rw [HO.out]
        have hB2 := hb.trans (hb2.mono hb.size)
        cases b with
        | false =>
          have HR := Lib.hid (fs_bad HLF.out (show fB (fs[k]'HLF.out) = false by rw [HF.out]; exact HO.out))
          go_wp2
          go_ret
          exact ⟨ret_bool HR.out.symm, hB2⟩
        | true =>
          go_wp2
          go_roundw
          case rel => exact ⟨k + 1, by omega, by omega, by go_num, fall_snoc HALL.out HLF.out HF.out HO.out, hB2⟩
          case measure => simp [intOf]; omega
      · have hn20 : ¬ n ≤ 20 := by omega
        have HR := Lib.hid (fs_long (fs := fs) (by rw [HL.out]; omega))
        go_wp2
        go_ret
        exact ⟨ret_bool (by rw [HR.out]; first | rfl | simp; omega), hb⟩
    · by_cases h20 : n ≤ 20
      · have HR := Lib.hid (fs_good (fs := fs) (by rw [HL.out]; exact h20) (fun j hj => HALL.out j hj (by have := HL.out; omega)))
        go_wp2
        go_ret
        exact ⟨ret_bool (by rw [HR.out]; first | rfl | simp; omega), hb⟩
      · have HR := Lib.hid (fs_long (fs := fs) (by rw [HL.out]; omega))
        go_wp2
        go_ret
        exact ⟨ret_bool (by rw [HR.out]; first | rfl | simp; omega), hb⟩
theorem ret_rowi {w w' : World} {A : Option Addr} {n cap : Nat} {l : List Int} {b b' : Bool} (hn : n = l.length) (hb' : b = b') (hown : w'.ownsRow w.heap.size 3 1 (.slice A n cap) n (vi l)) (hb : Below w.heap.size w w') :
    RetRowB 3 w (vi l) b' (.returned (.tuple #[.slice A n cap, .bool b])) w' := by
  have hlen : (vi l).length = n := by unfold vi; rw [List.length_map, hn]
  subst hb'
  unfold RetRowB
  rw [hlen]
  exact ⟨A, cap, rfl, hown, hb⟩
theorem slice_own' {w : World} {B : Nat} {T : TypeId} {v : Value} {n : Nat} {xs : List Value} (h : w.ownsRow B T 1 v n xs) : ∃ A c, v = .slice A n c := by
  rcases Go.Joins.ownsRow_forms h with ⟨rfl, rfl⟩ | ⟨k, c, rfl⟩
  · exact ⟨_, _, rfl⟩
  · exact ⟨_, _, rfl⟩
theorem vi_app (a b : List Int) : vi (a ++ b) = vi a ++ vi b := by simp [vi]
theorem vi_len (a : List Int) : (vi a).length = a.length := by simp [vi]
theorem foTo_hit {ad : List Int} {a : Int} {k : Nat} (h : ad.getD k 0 = a) : P.foTo ad a (k + 1) = P.foTo ad a k ++ [(k : Int)] := by rw [P.foTo, if_pos h]
theorem foTo_miss {ad : List Int} {a : Int} {k : Nat} (h : ¬ ad.getD k 0 = a) : P.foTo ad a (k + 1) = P.foTo ad a k := by rw [P.foTo, if_neg h]
theorem ads_at {fs : List P.Fr} {k : Nat} {x y z : Int} (hk : k < fs.length) (h : fs[k] = (x, y, z)) : (P.ads fs).getD k 0 = y := by
  rw [P.getD_at (by rw [P.ads_len]; exact hk)]
  unfold P.ads
  rw [List.getElem_map, h]
theorem fo_no {fs : List P.Fr} {a : Int} (h : P.foOk fs a = false) : P.foL fs a = [] := by unfold P.foL; rw [h]; rfl
theorem c_implFramesOf (A : Option Addr) (n c : Nat) (fs : List P.Fr) (a : Int) (w : World) (hl : fs.length = n) (hn : n ≤ maxLen) (h : Holds w A (fcs fs)) : Calls Try.prog 80 #[.slice A n c, .int .i64 a] w (RetRowB 3 w (vi (P.foL fs a)) (P.foOk fs a)) := by
  obtain ⟨i0, hi, hz0, hz1, hz2⟩ := info_parts info_int
  have HN := Lib.hid hn
  have HL := Lib.hid hl
  have HH := Lib.hid h
  obtain ⟨b, ho⟩ : ∃ b, P.fsOk fs = b := ⟨_, rfl⟩
  have HO := Lib.hid ho
  cases b with
  | false =>
    have HR := Lib.hid (show P.foOk fs a = false by unfold P.foOk; rw [ho]; rfl)
    clear h hl hn ho
    go_enter Try.func80, Try.ntmps80
    go_wp2_with fail
    refine (c_areFrames A n c fs _ HL.out HN.out HH.out).mono ?_
    rintro e w1 ⟨rfl, hb1⟩
    rw [HO.out]
    go_wp2
    go_ret2
    exact ret_rowi (by rw [fo_no HR.out]; rfl) HR.out.symm (by rw [fo_no HR.out]; exact World.ownsRow_nil _ _ _ _) hb1
  | true =>
    cases hp : P.inB a 1 65535 with
    | false =>
      have HR := Lib.hid (show P.foOk fs a = false by unfold P.foOk; rw [ho, hp]; rfl)
      have HP := Lib.hid hp
      clear h hl hn ho hp
      go_enter Try.func80, Try.ntmps80
      go_wp2_with fail
      refine (c_areFrames A n c fs _ HL.out HN.out HH.out).mono ?_
      rintro e w1 ⟨rfl, hb1⟩
      rw [HO.out]
      go_wp2_with fail
      refine (c_isAddress a _).mono ?_
      rintro e w' ⟨rfl, rfl⟩
      rw [HP.out]
      go_wp2
      go_ret2
      exact ret_rowi (by rw [fo_no HR.out]; rfl) HR.out.symm (by rw [fo_no HR.out]; exact World.ownsRow_nil _ _ _ _) hb1
    | true =>
      have HR := Lib.hid (show P.foOk fs a = true by unfold P.foOk; rw [ho, hp]; rfl)
      have HP := Lib.hid hp
      have hn20 : n ≤ 20 := by
        rw [fsOk_eq, Bool.and_eq_true, decide_eq_true_eq] at ho
        omega
      clear h hl hn ho hp
      go_enter Try.func80, Try.ntmps80
      go_wp2_with fail
      refine (c_areFrames A n c fs _ HL.out HN.out HH.out).mono ?_
      rintro e w1 ⟨rfl, hb1⟩
      rw [HO.out]
      go_wp2_with fail
      refine (c_isAddress a _).mono ?_
      rintro e w' ⟨rfl, rfl⟩
      rw [HP.out]
      go_wp2
      go_loopw [6, 19] (fun v i wr => ∃ k q : Nat, k ≤ n ∧ i = .int .i64 k ∧ q ≤ k ∧ (P.foTo (P.ads fs) a k).length = q ∧ wr.ownsRow w.heap.size 3 1 v q (vi (P.foTo (P.ads fs) a k)) ∧ Below w.heap.size w wr) (fun _ i _ => n - (intOf i).toNat)
      case atStart => exact ⟨0, 0, Nat.zero_le _, rfl, Nat.le_refl _, rfl, World.ownsRow_nil _ _ _ _, hb1⟩
      case round =>
        obtain ⟨k, q, hk, rfl, hqk, hq, hown, hb⟩ := hrel
        have HQ := Lib.hid hq
        clear hq
        by_cases hlt : k < n
        · have HLF := Lib.hid (show k < fs.length by rw [HL.out]; exact hlt)
          obtain ⟨g, o, rfl, k0, k1, k2⟩ := fcells HH.out (k := k) (by rw [HL.out]; exact hlt)
          obtain ⟨f, hf⟩ : ∃ f, fs[k]'(by rw [HL.out]; exact hlt) = f := ⟨_, rfl⟩
          rw [hf] at k0 k1 k2
          obtain ⟨x, y, z⟩ := f
          simp only at k0 k1 k2
          have HF := Lib.hid hf
          have hgl := World.block_lt_of_cell? w _ k0
          have j0 := (hb.cell (p := ⟨g, o + k * 3, none⟩) hgl).trans k0
          have j1 := (hb.cell (p := ⟨g, o + k * 3 + 1, none⟩) hgl).trans k1
          have j2 := (hb.cell (p := ⟨g, o + k * 3 + 2, none⟩) hgl).trans k2
          clear k0 k1 k2 hf
          have hA := (Below.refl (wr).heap.size wr).alloc (Nat.le_refl _) (.cells #[.int .i64 x, .int .i64 y, .int .i64 z] 57)
          have hX := Box.new wr x y z 57
          obtain ⟨W1, hW⟩ : ∃ W, (wr).alloc (.cells #[.int .i64 x, .int .i64 y, .int .i64 z] 57) = W := ⟨_, rfl⟩
          rw [hW] at hA hX
          have XF := Lib.hid hX
          have hB := (hb).trans (hA.mono (hb).size)
          clear hX
          have hown1 := own_below hown hA
          have HO1 := Lib.hid hown1
          obtain ⟨⟨q0, q1, q2⟩, _, _, _⟩ := XF.out
          have hy := ads_at HLF.out HF.out
          have hsz := hB.size
          by_cases hya : y = a
          · have HS := Lib.hid (foTo_hit (hy.trans hya))
            have he : ((y : Int) == a) = true := beq_iff_eq.2 hya
            clear hya hy hown hown1
            go_wp2_with (at_builtin; refine wpList_append_own _ rfl _ _ 64 rfl w.heap.size 3 i0 (.int .i64 0) 1 8 Try.underlying64 hi hz0 hz1 hz2 rfl (by decide) _ _ _ rfl (HO1.out.alloc _) ⟨(W1).heap.size, 0, none⟩ 1 1 [.int .i64 k] rfl rfl (one_new _ _ _) ?p2 ?p3 ?p4 ?p5 ?_)
            case p2 => first | rfl | (intro u hu; simp at hu; subst hu; rfl)
            case p3 => unfold maxLen; omega
            case p4 => omega
            case p5 => first | omega | (simp; omega) | decide | trace_state
            intro v1 w5 hown5 hg5 _
            have hb5 := below_app hB hsz HO1.out hg5
            have HO5 := Lib.hid (show w5.ownsRow w.heap.size 3 1 v1 (q + 1) (vi (P.foTo (P.ads fs) a (k + 1))) by
              rw [HS.out, vi_app]; exact hown5)
            have HQ5 := Lib.hid (show (P.foTo (P.ads fs) a (k + 1)).length = q + 1 by rw [HS.out, List.length_append, HQ.out]; rfl)
            clear hown5 hg5 hW
            go_wp2
            go_roundw
            case rel => exact ⟨k + 1, q + 1, by omega, by go_num, by omega, HQ5.out, HO5.out, hb5⟩
            case measure => simp [intOf]; omega
          · have HS := Lib.hid (foTo_miss (a := a) (by rw [hy]; exact hya))
            have he : ((y : Int) == a) = false := beq_eq_false_iff_ne.2 hya
            clear hya hy hown hown1
            go_wp2
            clear hW
            go_roundw
            case rel => exact ⟨k + 1, q, by omega, by go_num, by omega, by rw [HS.out]; exact HQ.out, by rw [HS.out]; exact HO1.out, hB⟩
            case measure => simp [intOf]; omega
        · have HE := Lib.hid (show P.foL fs a = P.foTo (P.ads fs) a k by
            unfold P.foL
            rw [if_pos HR.out, HL.out, show k = n by omega])
          obtain ⟨A5, c5, hv5⟩ := slice_own' hown
          subst hv5
          go_wp2
          go_ret2
          exact ret_rowi (by rw [HE.out, HQ.out]) HR.out.symm (by rw [HE.out]; exact hown) hb
theorem holds_belowF {w w' : World} {A : Option Addr} {xs : List Value} (h : Holds w A xs) (hb : Below w.heap.size w w') : Holds w' A xs := fun hne => by
  obtain ⟨g, o, hA, hc⟩ := h hne
  refine ⟨g, o, hA, fun j u hj => ?_⟩
  have h1 := hc j u hj
  rw [hb.cell (p := ⟨g, o + j, Option.none⟩) (World.block_lt_of_cell? w _ h1)]; exact h1
theorem c_specFramesOf (A : Option Addr) (n c : Nat) (fs : List P.Fr) (a : Int) (w : World) (hl : fs.length = n) (hn : n ≤ maxLen) (h : Holds w A (fcs fs)) : Calls Try.prog 81 #[.slice A n c, .int .i64 a] w (RetRowB 3 w (vi (P.foL fs a)) (P.foOk fs a)) := by
  obtain ⟨i0, hi, hz0, hz1, hz2⟩ := info_parts info_int
  have HN := Lib.hid hn
  have HL := Lib.hid hl
  have hM := (Below.refl w.heap.size w).alloc (Nat.le_refl _) (.cells #[] 3)
  have hO0 : (w.alloc (.cells #[] 3)).ownsRow w.heap.size 3 1 (.slice (some ⟨w.heap.size, 0, none⟩) 0 0) 0 [] := World.ownsRow_made _ _ _ (Nat.le_refl _) (by unfold maxLen; omega) rfl
  obtain ⟨W0, hW0⟩ : ∃ W0, w.alloc (.cells #[] 3) = W0 := ⟨_, rfl⟩
  rw [hW0] at hM hO0
  have HO0 := Lib.hid hO0
  have HH := Lib.hid (holds_belowF h hM)
  clear hO0
  obtain ⟨b, ho⟩ : ∃ b, P.fsOk fs = b := ⟨_, rfl⟩
  have HO := Lib.hid ho
  cases b with
  | false =>
    have HR := Lib.hid (show P.foOk fs a = false by unfold P.foOk; rw [ho]; rfl)
    clear h hl hn ho
    go_enter Try.func81, Try.ntmps81
    go_wp2_with fail
    clear hW0
    refine (c_l5List A n c fs _ HL.out HN.out HH.out).mono ?_
    rintro e w1 ⟨rfl, hb1⟩
    rw [HO.out]
    have hB1 := hM.trans (hb1.mono hM.size)
    have HO1 := Lib.hid (own_below HO0.out hb1)
    go_wp2
    go_ret2
    exact ret_rowi (by rw [fo_no HR.out]; rfl) HR.out.symm (by rw [fo_no HR.out]; exact HO1.out) hB1
  | true =>
    cases hp : P.inB a 1 65535 with
    | false =>
      have HR := Lib.hid (show P.foOk fs a = false by unfold P.foOk; rw [ho, hp]; rfl)
      have HP := Lib.hid hp
      clear h hl hn ho hp
      go_enter Try.func81, Try.ntmps81
      go_wp2_with fail
      clear hW0
      refine (c_l5List A n c fs _ HL.out HN.out HH.out).mono ?_
      rintro e w1 ⟨rfl, hb1⟩
      rw [HO.out]
      have hB1 := hM.trans (hb1.mono hM.size)
      have HO1 := Lib.hid (own_below HO0.out hb1)
      go_wp2_with fail
      refine (c_l5Address a _).mono ?_
      rintro e w' ⟨rfl, rfl⟩
      rw [HP.out]
      go_wp2
      go_ret2
      exact ret_rowi (by rw [fo_no HR.out]; rfl) HR.out.symm (by rw [fo_no HR.out]; exact HO1.out) hB1
    | true =>
      have HR := Lib.hid (show P.foOk fs a = true by unfold P.foOk; rw [ho, hp]; rfl)
      have HP := Lib.hid hp
      have hn20 : n ≤ 20 := by
        rw [fsOk_eq, Bool.and_eq_true, decide_eq_true_eq] at ho
        omega
      have H0 := Lib.hid h
      clear h hl hn ho hp
      go_enter Try.func81, Try.ntmps81
      go_wp2_with fail
      clear hW0
      refine (c_l5List A n c fs _ HL.out HN.out HH.out).mono ?_
      rintro e w1 ⟨rfl, hb1⟩
      rw [HO.out]
      have hB1 := hM.trans (hb1.mono hM.size)
      have HO1 := Lib.hid (own_below HO0.out hb1)
      go_wp2_with fail
      refine (c_l5Address a _).mono ?_
      rintro e w' ⟨rfl, rfl⟩
      rw [HP.out]
      have HH := Lib.hid H0.out
      clear H0
      go_wp2
      go_loopw [6, 7] (fun v i wr => ∃ k q : Nat, k ≤ n ∧ i = .int .i64 k ∧ q ≤ k ∧ (P.foTo (P.ads fs) a k).length = q ∧ wr.ownsRow w.heap.size 3 1 v q (vi (P.foTo (P.ads fs) a k)) ∧ Below w.heap.size w wr) (fun _ i _ => n - (intOf i).toNat)
      case atStart => exact ⟨0, 0, Nat.zero_le _, rfl, Nat.le_refl _, rfl, HO1.out, hB1⟩
      case round =>
        obtain ⟨k, q, hk, rfl, hqk, hq, hown, hb⟩ := hrel
        have HQ := Lib.hid hq
        clear hq
        by_cases hlt : k < n
        · have HLF := Lib.hid (show k < fs.length by rw [HL.out]; exact hlt)
          obtain ⟨g, o, rfl, k0, k1, k2⟩ := fcells HH.out (k := k) (by rw [HL.out]; exact hlt)
          obtain ⟨f, hf⟩ : ∃ f, fs[k]'(by rw [HL.out]; exact hlt) = f := ⟨_, rfl⟩
          rw [hf] at k0 k1 k2
          obtain ⟨x, y, z⟩ := f
          simp only at k0 k1 k2
          have HF := Lib.hid hf
          have hgl := World.block_lt_of_cell? w _ k0
          have j0 := (hb.cell (p := ⟨g, o + k * 3, none⟩) hgl).trans k0
          have j1 := (hb.cell (p := ⟨g, o + k * 3 + 1, none⟩) hgl).trans k1
          have j2 := (hb.cell (p := ⟨g, o + k * 3 + 2, none⟩) hgl).trans k2
          clear k0 k1 k2 hf
          have HO2 := Lib.hid hown
          have hy := ads_at HLF.out HF.out
          have hsz := hb.size
          by_cases hya : y = a
          · have HS := Lib.hid (foTo_hit (hy.trans hya))
            have he : ((y : Int) == a) = true := beq_iff_eq.2 hya
            clear hya hy hown
            go_wp2_with (at_builtin; refine wpList_append_own _ rfl _ _ 64 rfl w.heap.size 3 i0 (.int .i64 0) 1 8 Try.underlying64 hi hz0 hz1 hz2 rfl (by decide) _ _ _ rfl (HO2.out.alloc _) ⟨(wr).heap.size, 0, none⟩ 1 1 [.int .i64 k] rfl rfl (one_new _ _ _) ?p2 ?p3 ?p4 ?p5 ?_)
            case p2 => first | rfl | (intro u hu; simp at hu; subst hu; rfl)
            case p3 => unfold maxLen; omega
            case p4 => omega
            case p5 => first | omega | (simp; omega) | decide | trace_state
            intro v1 w5 hown5 hg5 _
            have hb5 := below_app hb hsz HO2.out hg5
            have HO5 := Lib.hid (show w5.ownsRow w.heap.size 3 1 v1 (q + 1) (vi (P.foTo (P.ads fs) a (k + 1))) by
              rw [HS.out, vi_app]; exact hown5)
            have HQ5 := Lib.hid (show (P.foTo (P.ads fs) a (k + 1)).length = q + 1 by rw [HS.out, List.length_append, HQ.out]; rfl)
            clear hown5 hg5
            go_wp2
            go_roundw
            case rel => exact ⟨k + 1, q + 1, by omega, by go_num, by omega, HQ5.out, HO5.out, hb5⟩
            case measure => simp [intOf]; omega
          · have HS := Lib.hid (foTo_miss (a := a) (by rw [hy]; exact hya))
            have he : ((y : Int) == a) = false := beq_eq_false_iff_ne.2 hya
            clear hya hy hown
            go_wp2
            go_roundw
            case rel => exact ⟨k + 1, q, by omega, by go_num, by omega, by rw [HS.out]; exact HQ.out, by rw [HS.out]; exact HO2.out, hb⟩
            case measure => simp [intOf]; omega
        · have HE := Lib.hid (show P.foL fs a = P.foTo (P.ads fs) a k by
            unfold P.foL
            rw [if_pos HR.out, HL.out, show k = n by omega])
          obtain ⟨A5, c5, hv5⟩ := slice_own' hown
          subst hv5
          go_wp2
          go_ret2
          exact ret_rowi (by rw [HE.out, HQ.out]) HR.out.symm (by rw [HE.out]; exact hown) hb
theorem c_vInts (A A' : Option Addr) (c c' : Nat) (l : List Int) (w : World) (h : Holds w A (vi l)) (h' : Holds w A' (vi l)) (hl : l.length ≤ 2097152) :
    Calls Try.prog 82 #[.slice A l.length c, .slice A' l.length c'] w fun e w' => e = .returned (.bool true) ∧ Qt w w' := by
  by_cases hn : l = []
  · subst hn
    go_enter Try.func82, Try.ntmps82
    go_wp2
    refine wp_loop_rounds 1 ?_
    rw [rounds_succ]
    go_wp2
    go_ret
    exact ⟨rfl, Qt.refl _⟩
  · obtain ⟨g, o, rfl, hc⟩ := h (by unfold vi; simpa using hn)
    obtain ⟨g', o', rfl, hc'⟩ := h' (by unfold vi; simpa using hn)
    clear h h' hn
    obtain ⟨n, hnl⟩ : ∃ n, l.length = n := ⟨_, rfl⟩
    rw [hnl] at hl ⊢
    have HC := Lib.hid hc
    have HC' := Lib.hid hc'
    have HNL := Lib.hid hnl
    clear hc hc' hnl
    go_enter Try.func82, Try.ntmps82
    go_wp2
    go_loopw [5] (fun i wr => ∃ k : Nat, k ≤ n ∧ i = .int .i64 k ∧ Qt w wr) (fun i _ => n - (intOf i).toNat)
    case atStart => exact ⟨0, Nat.zero_le _, rfl, Qt.refl _⟩
    case round =>
      obtain ⟨k, hk, rfl, q, rfl⟩ := hrel
      by_cases hlt : k < n
      · obtain ⟨t, ht⟩ : ∃ t, l[k]'(by rw [HNL.out]; exact hlt) = t := ⟨_, rfl⟩
        have hlk : (vi l)[k]? = some (.int .i64 t) := by
          unfold vi
          rw [List.getElem?_map, List.getElem?_eq_getElem (by rw [HNL.out]; exact hlt), ht]; rfl
        have hc1 := HC.out k _ hlk
        have hc2 := HC'.out k _ hlk
        clear hlk ht
        go_wp2
        go_quiet (fail)
        go_wp2
        go_roundw
        case rel => exact ⟨k + 1, by omega, by go_num, Qt.of _ _⟩
        case measure => simp [intOf]; omega
      · go_wp2
        go_ret
        exact ⟨rfl, Qt.of _ _⟩
theorem c_eqIntS (A A' : Option Addr) (c c' : Nat) (l : List Int) (w : World) (h : Holds w A (vi l)) (h' : Holds w A' (vi l)) (hl : l.length ≤ 2097152) :
    Calls Try.prog 126 #[.slice A l.length c, .slice A' l.length c'] w fun e w' => e = .returned (.bool true) ∧ Qt w w' := by
  by_cases hn : l = []
  · subst hn
    go_enter Try.func126, Try.ntmps126
    go_wp2
    refine wp_loop_rounds 1 ?_
    rw [rounds_succ]
    go_wp2
    go_ret
    exact ⟨rfl, Qt.refl _⟩
  · obtain ⟨g, o, rfl, hc⟩ := h (by unfold vi; simpa using hn)
    obtain ⟨g', o', rfl, hc'⟩ := h' (by unfold vi; simpa using hn)
    clear h h' hn
    obtain ⟨n, hnl⟩ : ∃ n, l.length = n := ⟨_, rfl⟩
    rw [hnl] at hl ⊢
    have HC := Lib.hid hc
    have HC' := Lib.hid hc'
    have HNL := Lib.hid hnl
    clear hc hc' hnl
    go_enter Try.func126, Try.ntmps126
    go_wp2
    go_loopw [5] (fun i wr => ∃ k : Nat, k ≤ n ∧ i = .int .i64 k ∧ Qt w wr) (fun i _ => n - (intOf i).toNat)
    case atStart => exact ⟨0, Nat.zero_le _, rfl, Qt.refl _⟩
    case round =>
      obtain ⟨k, hk, rfl, q, rfl⟩ := hrel
      by_cases hlt : k < n
      · obtain ⟨t, ht⟩ : ∃ t, l[k]'(by rw [HNL.out]; exact hlt) = t := ⟨_, rfl⟩
        have hlk : (vi l)[k]? = some (.int .i64 t) := by
          unfold vi
          rw [List.getElem?_map, List.getElem?_eq_getElem (by rw [HNL.out]; exact hlt), ht]; rfl
        have hc1 := HC.out k _ hlk
        have hc2 := HC'.out k _ hlk
        clear hlk ht
        go_wp2
        go_quiet (fail)
        go_wp2
        go_roundw
        case rel => exact ⟨k + 1, by omega, by go_num, Qt.of _ _⟩
        case measure => simp [intOf]; omega
      · go_wp2
        go_ret
        exact ⟨rfl, Qt.of _ _⟩
end Go.Proofs.Ytfbanjmooknafaa
