/-
  Contracts of DecodeFrame and RepairFrame, and the walks of their laws.
-/
import Derived.Test.YtfbanjmooknafaaG
import Derived.Test.YtfbanjmooknafaaQR
import Derived.Deep.CutRange
import Derived.Deep.DeepCutAuto
namespace Go.Proofs.Ytfbanjmooknafaa
open Go.RowKit
set_option linter.unusedSimpArgs false
set_option linter.unusedVariables false
set_option maxRecDepth 100000

/-- the three numbers of the bits of a frame -/
def foA (l : List UInt8) : Nat := P.numL (l.take 4)
def foB (l : List UInt8) : Nat := P.numL ((l.drop 4).take 16)
def foC (l : List UInt8) : Nat := P.numL ((l.drop 20).take 24)
def doOk (l : List UInt8) : Bool := frOk (foA l) (foB l) (foC l)
def doA (l : List UInt8) : Int := if doOk l = true then (foA l : Int) else 0
def doB (l : List UInt8) : Int := if doOk l = true then (foB l : Int) else 0
def doC (l : List UInt8) : Int := if doOk l = true then (foC l : Int) else 0
theorem do_no {l : List UInt8} (h : doOk l = false) : doA l = 0 ∧ doB l = 0 ∧ doC l = 0 := by unfold doA doB doC; rw [h]; exact ⟨rfl, rfl, rfl⟩
theorem do_yes {l : List UInt8} (h : doOk l = true) : doA l = foA l ∧ doB l = foB l ∧ doC l = foC l := by unfold doA doB doC; rw [h]; exact ⟨rfl, rfl, rfl⟩
theorem do_ret_no {l : List UInt8} (h : doOk l = false) : Ending.returned (.tuple #[.agg #[.int .i64 0, .int .i64 0, .int .i64 0], .bool false]) = .returned (.tuple #[fr (doA l) (doB l) (doC l), .bool (doOk l)]) := by
  rw [h, (do_no h).1, (do_no h).2.1, (do_no h).2.2]
/-- what the literal of a frame leaves -/
def FoCut (w : World) (a b c : Nat) (v : Value) (wx : World) : Prop := ∃ gf, v = .pointer (some ⟨gf, 0, none⟩) ∧ Box wx gf a b c ∧ Box wx w.heap.size 0 0 0 ∧ Below w.heap.size w wx
theorem FoCut.mk {w wx : World} {a b c gf : Nat} (h : Box wx gf a b c) (h2 : Box wx w.heap.size 0 0 0) (h3 : Below w.heap.size w wx) : FoCut w a b c (.pointer (some ⟨gf, 0, none⟩)) wx := ⟨gf, rfl, h, h2, h3⟩
set_option maxHeartbeats 2000000 in
theorem c_frameOf (s : ByteArray) (w : World) (hs : s.size = 56) (hbits : (B s).all P.bitB = true) : Calls Try.prog 199 #[.string s] w fun e w' => e = .returned (.tuple #[fr (doA (B s)) (doB (B s)) (doC (B s)), .bool (doOk (B s))]) ∧ Below w.heap.size w w' := by
  have hl := B_len s
  obtain ⟨u1, hu1⟩ : ∃ u, s.extract 0 4 = u := ⟨_, rfl⟩
  obtain ⟨u2, hu2⟩ : ∃ u, s.extract 4 20 = u := ⟨_, rfl⟩
  obtain ⟨u3, hu3⟩ : ∃ u, s.extract 20 44 = u := ⟨_, rfl⟩
  have b1 : B u1 = (B s).take 4 := by rw [← hu1, B_ext]; simp
  have b2 : B u2 = ((B s).drop 4).take 16 := by rw [← hu2, B_ext]
  have b3 : B u3 = ((B s).drop 20).take 24 := by rw [← hu3, B_ext]
  have z1 : u1.size ≤ 30 := by rw [← B_len, b1, List.length_take]; omega
  have z2 : u2.size ≤ 30 := by rw [← B_len, b2, List.length_take]; omega
  have z3 : u3.size ≤ 30 := by rw [← B_len, b3, List.length_take]; omega
  have C1 := Lib.hid (fun W => c_numberOf u1 W z1 (by rw [b1]; exact P.all_take hbits _))
  have C2 := Lib.hid (fun W => c_numberOf u2 W z2 (by rw [b2]; exact P.all_take (P.all_drop hbits _) _))
  have C3 := Lib.hid (fun W => c_numberOf u3 W z3 (by rw [b3]; exact P.all_take (P.all_drop hbits _) _))
  rw [b1] at C1
  rw [b2] at C2
  rw [b3] at C3
  obtain ⟨a, ha⟩ : ∃ a, foA (B s) = a := ⟨_, rfl⟩
  obtain ⟨b, hb⟩ : ∃ b, foB (B s) = b := ⟨_, rfl⟩
  obtain ⟨c, hc⟩ : ∃ c, foC (B s) = c := ⟨_, rfl⟩
  rw [show P.numL ((B s).take 4) = a from ha] at C1
  rw [show P.numL (((B s).drop 4).take 16) = b from hb] at C2
  rw [show P.numL (((B s).drop 20).take 24) = c from hc] at C3
  have HA := Lib.hid ha
  have HB := Lib.hid hb
  have HC := Lib.hid hc
  have s4 : (4 : Int) ≤ (s.size : Int) := by omega
  have s20 : (20 : Int) ≤ (s.size : Int) := by omega
  have s44 : (44 : Int) ≤ (s.size : Int) := by omega
  clear ha hb hc b1 b2 b3 hbits hs hl
  obtain ⟨W0, hW0⟩ : ∃ W0, w.alloc (.cells #[.int .i64 0, .int .i64 0, .int .i64 0] 57) = W0 := ⟨_, rfl⟩
  have hB0 : Below w.heap.size w W0 := by rw [← hW0]; exact (Below.refl _ _).alloc (Nat.le_refl _) _
  have HX0 := Lib.hid (show Box W0 w.heap.size 0 0 0 by rw [← hW0]; exact Box.new w 0 0 0 _)
  go_enter Try.func199, Try.ntmps199
  go_upto_region 1 with fail
  clear hW0
  go_cut [4] (fun v4 wx => FoCut w a b c v4 wx)
  case first =>
    go_region_held3 (fun _ => True) (first | trivial | simp) (first
      | (go_at_call 166; ((with_reducible refine (C1.out _).mono ?_); rintro e w' ⟨rfl, rfl⟩))
      | (go_at_call 166; ((with_reducible refine (C2.out _).mono ?_); rintro e w' ⟨rfl, rfl⟩))
      | (go_at_call 166; ((with_reducible refine (C3.out _).mono ?_); rintro e w' ⟨rfl, rfl⟩)))
    all_goals
      go_wp2_with fail
      go_meet
      exact FoCut.mk (gf := W0.heap.size) (show Box (W0.alloc (.cells #[.int .i64 a, .int .i64 b, .int .i64 c] 57)).drew W0.heap.size a b c from Box.new W0 a b c _) (show Box (W0.alloc (.cells #[.int .i64 a, .int .i64 b, .int .i64 c] 57)).drew w.heap.size 0 0 0 from HX0.out.below (((Below.refl _ _).alloc (Nat.le_refl _) _).drew)) (hB0.alloc hB0.size _).drew
  case rest =>
    obtain ⟨gf, rfl, hbf, hb0, hB⟩ := hcut
    have HBF := Lib.hid hbf
    have HB0 := Lib.hid hb0
    obtain ⟨⟨j0, j1, j2⟩, _, _, _⟩ := hbf
    clear hb0
    cases hfr : frOk a b c with
    | false =>
      have HFR := Lib.hid hfr
      have HF := Lib.hid (show doOk (B s) = false by unfold doOk; rw [HA.out, HB.out, HC.out]; exact hfr)
      clear hfr
      go_wp2_with fail
      refine (c_implIsValidFrame a b c _).mono ?_
      rintro e w6 ⟨rfl, hb6⟩
      rw [HFR.out]
      obtain ⟨⟨k0, k1, k2⟩, f0, f1, f2⟩ := HB0.out.below hb6
      have hB6 := hB.trans (hb6.mono hB.size)
      clear hb6 j0 j1 j2
      go_wp2
      exact bodyPost_ret (v := .tuple #[.agg #[.int .i64 0, .int .i64 0, .int .i64 0], .bool false]) (by simp [results, Try.results199, go_sem, k0, k1, k2]) rfl ⟨do_ret_no HF.out, ((hB6.setCell (Nat.le_refl _) _).setCell (Nat.le_refl _) _).setCell (Nat.le_refl _) _⟩
    | true =>
      have HFR := Lib.hid hfr
      have HT := Lib.hid (show doOk (B s) = true by unfold doOk; rw [HA.out, HB.out, HC.out]; exact hfr)
      clear hfr
      go_wp2_with fail
      refine (c_implIsValidFrame a b c _).mono ?_
      rintro e w6 ⟨rfl, hb6⟩
      rw [HFR.out]
      obtain ⟨⟨q0, q1, q2⟩, _, _, _⟩ := HBF.out.below hb6
      obtain ⟨⟨k0, k1, k2⟩, f0, f1, f2⟩ := HB0.out.below hb6
      have hB6 := hB.trans (hb6.mono hB.size)
      clear hb6 j0 j1 j2
      go_wp2
      exact bodyPost_ret (v := .tuple #[.agg #[.int .i64 a, .int .i64 b, .int .i64 c], .bool true]) (by simp [results, Try.results199, go_sem, k0, k1, k2]) rfl ⟨by rw [HT.out, (do_yes HT.out).1, (do_yes HT.out).2.1, (do_yes HT.out).2.2, HA.out, HB.out, HC.out], ((hB6.setCell (Nat.le_refl _) _).setCell (Nat.le_refl _) _).setCell (Nat.le_refl _) _⟩
set_option maxHeartbeats 2000000 in
theorem c_l5Decode (s : ByteArray) (w : World) (hs : s.size = 56) (hbits : (B s).all P.bitB = true) : Calls Try.prog 212 #[.string s] w fun e w' => e = .returned (.tuple #[fr (doA (B s)) (doB (B s)) (doC (B s)), .bool (doOk (B s))]) ∧ Below w.heap.size w w' := by
  have hl := B_len s
  obtain ⟨u1, hu1⟩ : ∃ u, s.extract 0 4 = u := ⟨_, rfl⟩
  obtain ⟨u2, hu2⟩ : ∃ u, s.extract 4 20 = u := ⟨_, rfl⟩
  obtain ⟨u3, hu3⟩ : ∃ u, s.extract 20 44 = u := ⟨_, rfl⟩
  have b1 : B u1 = (B s).take 4 := by rw [← hu1, B_ext]; simp
  have b2 : B u2 = ((B s).drop 4).take 16 := by rw [← hu2, B_ext]
  have b3 : B u3 = ((B s).drop 20).take 24 := by rw [← hu3, B_ext]
  have z1 : u1.size ≤ 30 := by rw [← B_len, b1, List.length_take]; omega
  have z2 : u2.size ≤ 30 := by rw [← B_len, b2, List.length_take]; omega
  have z3 : u3.size ≤ 30 := by rw [← B_len, b3, List.length_take]; omega
  have C1 := Lib.hid (fun W => c_l2Number u1 W z1 (by rw [b1]; exact P.all_take hbits _))
  have C2 := Lib.hid (fun W => c_l2Number u2 W z2 (by rw [b2]; exact P.all_take (P.all_drop hbits _) _))
  have C3 := Lib.hid (fun W => c_l2Number u3 W z3 (by rw [b3]; exact P.all_take (P.all_drop hbits _) _))
  rw [b1] at C1
  rw [b2] at C2
  rw [b3] at C3
  obtain ⟨a, ha⟩ : ∃ a, foA (B s) = a := ⟨_, rfl⟩
  obtain ⟨b, hb⟩ : ∃ b, foB (B s) = b := ⟨_, rfl⟩
  obtain ⟨c, hc⟩ : ∃ c, foC (B s) = c := ⟨_, rfl⟩
  rw [show P.numL ((B s).take 4) = a from ha] at C1
  rw [show P.numL (((B s).drop 4).take 16) = b from hb] at C2
  rw [show P.numL (((B s).drop 20).take 24) = c from hc] at C3
  have HA := Lib.hid ha
  have HB := Lib.hid hb
  have HC := Lib.hid hc
  have s4 : (4 : Int) ≤ (s.size : Int) := by omega
  have s20 : (20 : Int) ≤ (s.size : Int) := by omega
  have s44 : (44 : Int) ≤ (s.size : Int) := by omega
  clear ha hb hc b1 b2 b3 hbits hs hl
  obtain ⟨W0, hW0⟩ : ∃ W0, w.alloc (.cells #[.int .i64 0, .int .i64 0, .int .i64 0] 57) = W0 := ⟨_, rfl⟩
  have hB0 : Below w.heap.size w W0 := by rw [← hW0]; exact (Below.refl _ _).alloc (Nat.le_refl _) _
  have HX0 := Lib.hid (show Box W0 w.heap.size 0 0 0 by rw [← hW0]; exact Box.new w 0 0 0 _)
  go_enter Try.func212, Try.ntmps212
  go_upto_region 1 with fail
  clear hW0
  go_cut [4] (fun v4 wx => FoCut w a b c v4 wx)
  case first =>
    go_region_held3 (fun _ => True) (first | trivial | simp) (first
      | (go_at_call 173; ((with_reducible refine (C1.out _).mono ?_); rintro e w' ⟨rfl, rfl⟩))
      | (go_at_call 173; ((with_reducible refine (C2.out _).mono ?_); rintro e w' ⟨rfl, rfl⟩))
      | (go_at_call 173; ((with_reducible refine (C3.out _).mono ?_); rintro e w' ⟨rfl, rfl⟩)))
    all_goals
      go_wp2_with fail
      go_meet
      exact FoCut.mk (gf := W0.heap.size) (show Box (W0.alloc (.cells #[.int .i64 a, .int .i64 b, .int .i64 c] 57)).drew W0.heap.size a b c from Box.new W0 a b c _) (show Box (W0.alloc (.cells #[.int .i64 a, .int .i64 b, .int .i64 c] 57)).drew w.heap.size 0 0 0 from HX0.out.below (((Below.refl _ _).alloc (Nat.le_refl _) _).drew)) (hB0.alloc hB0.size _).drew
  case rest =>
    obtain ⟨gf, rfl, hbf, hb0, hB⟩ := hcut
    have HBF := Lib.hid hbf
    have HB0 := Lib.hid hb0
    obtain ⟨⟨j0, j1, j2⟩, _, _, _⟩ := hbf
    clear hb0
    cases hfr : frOk a b c with
    | false =>
      have HFR := Lib.hid hfr
      have HF := Lib.hid (show doOk (B s) = false by unfold doOk; rw [HA.out, HB.out, HC.out]; exact hfr)
      clear hfr
      go_wp2_with fail
      refine (c_l5Good a b c _).mono ?_
      rintro e w6 ⟨rfl, hb6⟩
      rw [HFR.out]
      obtain ⟨⟨k0, k1, k2⟩, f0, f1, f2⟩ := HB0.out.below hb6
      have hB6 := hB.trans (hb6.mono hB.size)
      clear hb6 j0 j1 j2
      go_wp2
      exact bodyPost_ret (v := .tuple #[.agg #[.int .i64 0, .int .i64 0, .int .i64 0], .bool false]) (by simp [results, Try.results212, go_sem, k0, k1, k2]) rfl ⟨do_ret_no HF.out, ((hB6.setCell (Nat.le_refl _) _).setCell (Nat.le_refl _) _).setCell (Nat.le_refl _) _⟩
    | true =>
      have HFR := Lib.hid hfr
      have HT := Lib.hid (show doOk (B s) = true by unfold doOk; rw [HA.out, HB.out, HC.out]; exact hfr)
      clear hfr
      go_wp2_with fail
      refine (c_l5Good a b c _).mono ?_
      rintro e w6 ⟨rfl, hb6⟩
      rw [HFR.out]
      obtain ⟨⟨q0, q1, q2⟩, _, _, _⟩ := HBF.out.below hb6
      obtain ⟨⟨k0, k1, k2⟩, f0, f1, f2⟩ := HB0.out.below hb6
      have hB6 := hB.trans (hb6.mono hB.size)
      clear hb6 j0 j1 j2
      go_wp2
      exact bodyPost_ret (v := .tuple #[.agg #[.int .i64 a, .int .i64 b, .int .i64 c], .bool true]) (by simp [results, Try.results212, go_sem, k0, k1, k2]) rfl ⟨by rw [HT.out, (do_yes HT.out).1, (do_yes HT.out).2.1, (do_yes HT.out).2.2, HA.out, HB.out, HC.out], ((hB6.setCell (Nat.le_refl _) _).setCell (Nat.le_refl _) _).setCell (Nat.le_refl _) _⟩
def rfU (l : List UInt8) : Bool := P.unhexOk l && decide ((bhL l).length = 56)
def rfOk (l : List UInt8) : Bool := rfU l && (rbOk (bhL l) && doOk (rbS (bhL l)))
def rfA (l : List UInt8) : Int := if rfOk l = true then doA (rbS (bhL l)) else 0
def rfB (l : List UInt8) : Int := if rfOk l = true then doB (rbS (bhL l)) else 0
def rfC (l : List UInt8) : Int := if rfOk l = true then doC (rbS (bhL l)) else 0
def rfI (l : List UInt8) : Int := if rfOk l = true then rbI (bhL l) else 0
theorem rf_no {l : List UInt8} (h : rfOk l = false) : rfA l = 0 ∧ rfB l = 0 ∧ rfC l = 0 ∧ rfI l = 0 := by unfold rfA rfB rfC rfI; rw [h]; exact ⟨rfl, rfl, rfl, rfl⟩
theorem rf_yes {l : List UInt8} (h : rfOk l = true) : rfA l = doA (rbS (bhL l)) ∧ rfB l = doB (rbS (bhL l)) ∧ rfC l = doC (rbS (bhL l)) ∧ rfI l = rbI (bhL l) := by unfold rfA rfB rfC rfI; rw [h]; exact ⟨rfl, rfl, rfl, rfl⟩
theorem rf_ret_no {l : List UInt8} (h : rfOk l = false) : Ending.returned (.tuple #[.agg #[.int .i64 0, .int .i64 0, .int .i64 0], .int .i64 0, .bool false]) = .returned (.tuple #[fr (rfA l) (rfB l) (rfC l), .int .i64 (rfI l), .bool (rfOk l)]) := by
  rw [h, (rf_no h).1, (rf_no h).2.1, (rf_no h).2.2.1, (rf_no h).2.2.2]
theorem rfU_cr {l : List UInt8} (h : rfU l = true) : crOk (bhL l) = true ∧ (bhL l).length = 56 ∧ (bhL l).all P.bitB = true := by
  unfold rfU at h
  rw [Bool.and_eq_true, decide_eq_true_eq] at h
  have hb : (bhL l).all P.bitB = true := by unfold bhL; rw [h.1, if_pos rfl]; exact P.unhexL_bits l
  exact ⟨crOk_iff.2 ⟨⟨by omega, hb⟩, by omega⟩, h.2, hb⟩
theorem rbS_form {l : List UInt8} (h : rbOk l = true) (hb : l.all P.bitB = true) : (rbS l).length = l.length ∧ (rbS l).all P.bitB = true := by
  unfold rbS
  rw [h, if_pos rfl]
  split
  · exact ⟨rfl, hb⟩
  · exact ⟨P.flipL_len _ _, P.flipL_bits hb _⟩
set_option maxHeartbeats 1000000 in
theorem c_implRepairFrame (s : ByteArray) (w : World) (hs : s.size ≤ maxLen) : Calls Try.prog 117 #[.string s] w fun e w' => e = .returned (.tuple #[fr (rfA (B s)) (rfB (B s)) (rfC (B s)), .int .i64 (rfI (B s)), .bool (rfOk (B s))]) ∧ Below w.heap.size w w' := by
  obtain ⟨W0, hW0⟩ : ∃ W0, w.alloc (.cells #[.int .i64 0, .int .i64 0, .int .i64 0] 57) = W0 := ⟨_, rfl⟩
  have hB0 : Below w.heap.size w W0 := by rw [← hW0]; exact (Below.refl _ _).alloc (Nat.le_refl _) _
  have HX0 := Lib.hid (show Box W0 w.heap.size 0 0 0 by rw [← hW0]; exact Box.new w 0 0 0 _)
  obtain ⟨x, hx⟩ : ∃ x, bhL (B s) = x := ⟨_, rfl⟩
  obtain ⟨u, hu⟩ : ∃ u, P.unhexOk (B s) = u := ⟨_, rfl⟩
  have HX := Lib.hid hx
  have HU := Lib.hid hu
  have hxs := bs_size x
  clear hx hu
  go_enter Try.func117, Try.ntmps117
  go_wp2_with fail
  clear hW0
  refine (c_implBitsFromHex s _ hs).mono ?_
  rintro e w1 ⟨rfl, hq1⟩
  have hb1 : Below W0.heap.size W0 w1 := hq1
  clear hq1
  rw [HX.out, HU.out]
  have HX1 := Lib.hid (HX0.out.below hb1)
  have hB1 := hB0.trans (hb1.mono hB0.size)
  clear hb1
  cases u with
  | false =>
    have HF := Lib.hid (show rfOk (B s) = false by unfold rfOk rfU; rw [HU.out]; rfl)
    obtain ⟨⟨k0, k1, k2⟩, f0, f1, f2⟩ := HX1.out
    go_wp2
    exact bodyPost_ret (v := .tuple #[.agg #[.int .i64 0, .int .i64 0, .int .i64 0], .int .i64 0, .bool false]) (by simp [results, Try.results117, go_sem, k0, k1, k2]) rfl ⟨rf_ret_no HF.out, ((hB1.setCell (Nat.le_refl _) _).setCell (Nat.le_refl _) _).setCell (Nat.le_refl _) _⟩
  | true =>
    by_cases h56 : x.length = 56
    · have hq : (((bs x).size : Int) != 56) = false := by rw [bne_eq_false_iff_eq]; omega
      have HRU := Lib.hid (show rfU (B s) = true by unfold rfU; rw [HU.out, HX.out, decide_eq_true h56]; rfl)
      have hcr := rfU_cr HRU.out
      rw [HX.out] at hcr
      have HCR := Lib.hid hcr
      have HMX := Lib.hid (show (bs x).size ≤ maxLen by rw [hxs, h56]; unfold maxLen; omega)
      obtain ⟨y, hy⟩ : ∃ y, rbS x = y := ⟨_, rfl⟩
      obtain ⟨o, ho⟩ : ∃ o, rbOk x = o := ⟨_, rfl⟩
      obtain ⟨i, hi⟩ : ∃ i, rbI x = i := ⟨_, rfl⟩
      have HY := Lib.hid hy
      have HO := Lib.hid ho
      have HI := Lib.hid hi
      clear hcr h56 hxs hy ho hi
      go_wp2_with fail
      refine (c_implRepairBit (bs x) _ HMX.out).mono ?_
      rintro e w2 ⟨rfl, hq2⟩
      have hb2 : Below w1.heap.size w1 w2 := hq2
      clear hq2
      rw [show B (bs x) = x from rfl, HY.out, HO.out, HI.out]
      have HX2 := Lib.hid (HX1.out.below hb2)
      have hB2 := hB1.trans (hb2.mono hB1.size)
      clear hb2
      cases o with
      | false =>
        have HF := Lib.hid (show rfOk (B s) = false by unfold rfOk; rw [HX.out, HO.out]; simp)
        obtain ⟨⟨k0, k1, k2⟩, f0, f1, f2⟩ := HX2.out
        go_wp2
        exact bodyPost_ret (v := .tuple #[.agg #[.int .i64 0, .int .i64 0, .int .i64 0], .int .i64 0, .bool false]) (by simp [results, Try.results117, go_sem, k0, k1, k2]) rfl ⟨rf_ret_no HF.out, ((hB2.setCell (Nat.le_refl _) _).setCell (Nat.le_refl _) _).setCell (Nat.le_refl _) _⟩
      | true =>
        have HYF := Lib.hid (rbS_form HO.out HCR.out.2.2)
        rw [HY.out, HCR.out.2.1] at HYF
        have HYS := Lib.hid (show (bs y).size = 56 by rw [bs_size]; exact HYF.out.1)
        obtain ⟨a, ha⟩ : ∃ a, doA y = a := ⟨_, rfl⟩
        obtain ⟨b, hb⟩ : ∃ b, doB y = b := ⟨_, rfl⟩
        obtain ⟨c, hc⟩ : ∃ c, doC y = c := ⟨_, rfl⟩
        obtain ⟨v, hv⟩ : ∃ v, doOk y = v := ⟨_, rfl⟩
        have HD := Lib.hid (fun W => c_frameOf (bs y) W HYS.out HYF.out.2)
        rw [show B (bs y) = y from rfl, ha, hb, hc, hv] at HD
        have HA := Lib.hid ha
        have HB := Lib.hid hb
        have HC := Lib.hid hc
        have HV := Lib.hid hv
        clear ha hb hc hv
        go_wp2_with fail
        refine (HD.out _).mono ?_
        rintro e w3 ⟨rfl, hb3⟩
        have HX3 := Lib.hid (HX2.out.below hb3)
        have hB3 := hB2.trans (hb3.mono hB2.size)
        have hA3 : Below w3.heap.size w3 (w3.alloc (.cells #[.int .i64 a, .int .i64 b, .int .i64 c] 57)) := (Below.refl _ _).alloc (Nat.le_refl _) _
        have HY3 := Lib.hid (Box.new w3 a b c 57)
        have HX4 := Lib.hid (HX3.out.below hA3)
        have hB4 := hB3.trans (hA3.mono hB3.size)
        clear hb3 hA3
        cases v with
        | false =>
          have HF := Lib.hid (show rfOk (B s) = false by unfold rfOk; rw [HX.out, HY.out, HV.out]; simp)
          obtain ⟨W4, hW4⟩ : ∃ W4, w3.alloc (.cells #[.int .i64 a, .int .i64 b, .int .i64 c] 57) = W4 := ⟨_, rfl⟩
          rw [hW4] at HX4 hB4
          obtain ⟨⟨k0, k1, k2⟩, f0, f1, f2⟩ := HX4.out
          go_wp2
          exact bodyPost_ret (v := .tuple #[.agg #[.int .i64 0, .int .i64 0, .int .i64 0], .int .i64 0, .bool false]) (by simp [results, Try.results117, go_sem, k0, k1, k2]) rfl ⟨rf_ret_no HF.out, ((hB4.setCell (Nat.le_refl _) _).setCell (Nat.le_refl _) _).setCell (Nat.le_refl _) _⟩
        | true =>
          have HT := Lib.hid (show rfOk (B s) = true by unfold rfOk; rw [HRU.out, HX.out, HY.out, HO.out, HV.out]; rfl)
          obtain ⟨W4, hW4⟩ : ∃ W4, w3.alloc (.cells #[.int .i64 a, .int .i64 b, .int .i64 c] 57) = W4 := ⟨_, rfl⟩
          rw [hW4] at HX4 hB4 HY3
          obtain ⟨⟨k0, k1, k2⟩, f0, f1, f2⟩ := HX4.out
          obtain ⟨⟨q0, q1, q2⟩, _, _, _⟩ := HY3.out
          go_wp2
          exact bodyPost_ret (v := .tuple #[.agg #[.int .i64 a, .int .i64 b, .int .i64 c], .int .i64 i, .bool true]) (by simp [results, Try.results117, go_sem, k0, k1, k2]) rfl ⟨by rw [HT.out, (rf_yes HT.out).1, (rf_yes HT.out).2.1, (rf_yes HT.out).2.2.1, (rf_yes HT.out).2.2.2, HX.out, HY.out, HA.out, HB.out, HC.out, HI.out], ((hB4.setCell (Nat.le_refl _) _).setCell (Nat.le_refl _) _).setCell (Nat.le_refl _) _⟩
    · have hq : (((bs x).size : Int) != 56) = true := by rw [bne_iff_ne]; omega
      have HF := Lib.hid (show rfOk (B s) = false by unfold rfOk rfU; rw [HX.out, decide_eq_false h56, Bool.and_false]; rfl)
      clear h56 hxs
      obtain ⟨⟨k0, k1, k2⟩, f0, f1, f2⟩ := HX1.out
      go_wp2
      exact bodyPost_ret (v := .tuple #[.agg #[.int .i64 0, .int .i64 0, .int .i64 0], .int .i64 0, .bool false]) (by simp [results, Try.results117, go_sem, k0, k1, k2]) rfl ⟨rf_ret_no HF.out, ((hB1.setCell (Nat.le_refl _) _).setCell (Nat.le_refl _) _).setCell (Nat.le_refl _) _⟩
set_option maxHeartbeats 1000000 in
theorem c_l5Repair (s : ByteArray) (w : World) (hs : s.size ≤ maxLen) : Calls Try.prog 203 #[.string s] w fun e w' => e = .returned (.tuple #[fr (rfA (B s)) (rfB (B s)) (rfC (B s)), .int .i64 (rfI (B s)), .bool (rfOk (B s))]) ∧ Below w.heap.size w w' := by
  obtain ⟨W0, hW0⟩ : ∃ W0, w.alloc (.cells #[.int .i64 0, .int .i64 0, .int .i64 0] 57) = W0 := ⟨_, rfl⟩
  have hB0 : Below w.heap.size w W0 := by rw [← hW0]; exact (Below.refl _ _).alloc (Nat.le_refl _) _
  have HX0 := Lib.hid (show Box W0 w.heap.size 0 0 0 by rw [← hW0]; exact Box.new w 0 0 0 _)
  obtain ⟨x, hx⟩ : ∃ x, bhL (B s) = x := ⟨_, rfl⟩
  obtain ⟨u, hu⟩ : ∃ u, P.unhexOk (B s) = u := ⟨_, rfl⟩
  have HX := Lib.hid hx
  have HU := Lib.hid hu
  have hxs := bs_size x
  clear hx hu
  go_enter Try.func203, Try.ntmps203
  go_wp2_with fail
  clear hW0
  refine (c_l2FromHex s _ hs).mono ?_
  rintro e w1 ⟨rfl, hq1⟩
  have hb1 : Below W0.heap.size W0 w1 := hq1.below _
  clear hq1
  rw [HX.out, HU.out]
  have HX1 := Lib.hid (HX0.out.below hb1)
  have hB1 := hB0.trans (hb1.mono hB0.size)
  clear hb1
  cases u with
  | false =>
    have HF := Lib.hid (show rfOk (B s) = false by unfold rfOk rfU; rw [HU.out]; rfl)
    obtain ⟨⟨k0, k1, k2⟩, f0, f1, f2⟩ := HX1.out
    go_wp2
    exact bodyPost_ret (v := .tuple #[.agg #[.int .i64 0, .int .i64 0, .int .i64 0], .int .i64 0, .bool false]) (by simp [results, Try.results203, go_sem, k0, k1, k2]) rfl ⟨rf_ret_no HF.out, ((hB1.setCell (Nat.le_refl _) _).setCell (Nat.le_refl _) _).setCell (Nat.le_refl _) _⟩
  | true =>
    by_cases h56 : x.length = 56
    · have hq : (((bs x).size : Int) != 56) = false := by rw [bne_eq_false_iff_eq]; omega
      have HRU := Lib.hid (show rfU (B s) = true by unfold rfU; rw [HU.out, HX.out, decide_eq_true h56]; rfl)
      have hcr := rfU_cr HRU.out
      rw [HX.out] at hcr
      have HCR := Lib.hid hcr
      have HMX := Lib.hid (show (bs x).size ≤ maxLen by rw [hxs, h56]; unfold maxLen; omega)
      obtain ⟨y, hy⟩ : ∃ y, rbS x = y := ⟨_, rfl⟩
      obtain ⟨o, ho⟩ : ∃ o, rbOk x = o := ⟨_, rfl⟩
      obtain ⟨i, hi⟩ : ∃ i, rbI x = i := ⟨_, rfl⟩
      have HY := Lib.hid hy
      have HO := Lib.hid ho
      have HI := Lib.hid hi
      clear hcr h56 hxs hy ho hi
      go_wp2_with fail
      refine (c_l4Repair (bs x) _ HCR.out.1).mono ?_
      rintro e w2 ⟨rfl, hq2⟩
      have hb2 : Below w1.heap.size w1 w2 := hq2.below _
      clear hq2
      rw [show B (bs x) = x from rfl, HY.out, HO.out, HI.out]
      have HX2 := Lib.hid (HX1.out.below hb2)
      have hB2 := hB1.trans (hb2.mono hB1.size)
      clear hb2
      cases o with
      | false =>
        have HF := Lib.hid (show rfOk (B s) = false by unfold rfOk; rw [HX.out, HO.out]; simp)
        obtain ⟨⟨k0, k1, k2⟩, f0, f1, f2⟩ := HX2.out
        go_wp2
        exact bodyPost_ret (v := .tuple #[.agg #[.int .i64 0, .int .i64 0, .int .i64 0], .int .i64 0, .bool false]) (by simp [results, Try.results203, go_sem, k0, k1, k2]) rfl ⟨rf_ret_no HF.out, ((hB2.setCell (Nat.le_refl _) _).setCell (Nat.le_refl _) _).setCell (Nat.le_refl _) _⟩
      | true =>
        have HYF := Lib.hid (rbS_form HO.out HCR.out.2.2)
        rw [HY.out, HCR.out.2.1] at HYF
        have HYS := Lib.hid (show (bs y).size = 56 by rw [bs_size]; exact HYF.out.1)
        obtain ⟨a, ha⟩ : ∃ a, doA y = a := ⟨_, rfl⟩
        obtain ⟨b, hb⟩ : ∃ b, doB y = b := ⟨_, rfl⟩
        obtain ⟨c, hc⟩ : ∃ c, doC y = c := ⟨_, rfl⟩
        obtain ⟨v, hv⟩ : ∃ v, doOk y = v := ⟨_, rfl⟩
        have HD := Lib.hid (fun W => c_l5Decode (bs y) W HYS.out HYF.out.2)
        rw [show B (bs y) = y from rfl, ha, hb, hc, hv] at HD
        have HA := Lib.hid ha
        have HB := Lib.hid hb
        have HC := Lib.hid hc
        have HV := Lib.hid hv
        clear ha hb hc hv
        go_wp2_with fail
        refine (HD.out _).mono ?_
        rintro e w3 ⟨rfl, hb3⟩
        have HX3 := Lib.hid (HX2.out.below hb3)
        have hB3 := hB2.trans (hb3.mono hB2.size)
        have hA3 : Below w3.heap.size w3 (w3.alloc (.cells #[.int .i64 a, .int .i64 b, .int .i64 c] 57)) := (Below.refl _ _).alloc (Nat.le_refl _) _
        have HY3 := Lib.hid (Box.new w3 a b c 57)
        have HX4 := Lib.hid (HX3.out.below hA3)
        have hB4 := hB3.trans (hA3.mono hB3.size)
        clear hb3 hA3
        cases v with
        | false =>
          have HF := Lib.hid (show rfOk (B s) = false by unfold rfOk; rw [HX.out, HY.out, HV.out]; simp)
          obtain ⟨W4, hW4⟩ : ∃ W4, w3.alloc (.cells #[.int .i64 a, .int .i64 b, .int .i64 c] 57) = W4 := ⟨_, rfl⟩
          rw [hW4] at HX4 hB4
          obtain ⟨⟨k0, k1, k2⟩, f0, f1, f2⟩ := HX4.out
          go_wp2
          exact bodyPost_ret (v := .tuple #[.agg #[.int .i64 0, .int .i64 0, .int .i64 0], .int .i64 0, .bool false]) (by simp [results, Try.results203, go_sem, k0, k1, k2]) rfl ⟨rf_ret_no HF.out, ((hB4.setCell (Nat.le_refl _) _).setCell (Nat.le_refl _) _).setCell (Nat.le_refl _) _⟩
        | true =>
          have HT := Lib.hid (show rfOk (B s) = true by unfold rfOk; rw [HRU.out, HX.out, HY.out, HO.out, HV.out]; rfl)
          obtain ⟨W4, hW4⟩ : ∃ W4, w3.alloc (.cells #[.int .i64 a, .int .i64 b, .int .i64 c] 57) = W4 := ⟨_, rfl⟩
          rw [hW4] at HX4 hB4 HY3
          obtain ⟨⟨k0, k1, k2⟩, f0, f1, f2⟩ := HX4.out
          obtain ⟨⟨q0, q1, q2⟩, _, _, _⟩ := HY3.out
          go_wp2
          exact bodyPost_ret (v := .tuple #[.agg #[.int .i64 a, .int .i64 b, .int .i64 c], .int .i64 i, .bool true]) (by simp [results, Try.results203, go_sem, k0, k1, k2]) rfl ⟨by rw [HT.out, (rf_yes HT.out).1, (rf_yes HT.out).2.1, (rf_yes HT.out).2.2.1, (rf_yes HT.out).2.2.2, HX.out, HY.out, HA.out, HB.out, HC.out, HI.out], ((hB4.setCell (Nat.le_refl _) _).setCell (Nat.le_refl _) _).setCell (Nat.le_refl _) _⟩
    · have hq : (((bs x).size : Int) != 56) = true := by rw [bne_iff_ne]; omega
      have HF := Lib.hid (show rfOk (B s) = false by unfold rfOk rfU; rw [HX.out, decide_eq_false h56, Bool.and_false]; rfl)
      clear h56 hxs
      obtain ⟨⟨k0, k1, k2⟩, f0, f1, f2⟩ := HX1.out
      go_wp2
      exact bodyPost_ret (v := .tuple #[.agg #[.int .i64 0, .int .i64 0, .int .i64 0], .int .i64 0, .bool false]) (by simp [results, Try.results203, go_sem, k0, k1, k2]) rfl ⟨rf_ret_no HF.out, ((hB1.setCell (Nat.le_refl _) _).setCell (Nat.le_refl _) _).setCell (Nat.le_refl _) _⟩

end Go.Proofs.Ytfbanjmooknafaa
