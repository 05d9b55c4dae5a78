/-
  Contract of the draw of a list of names.
-/
import Derived.Test.YtfbanjmooknafaaDK
namespace Go.Proofs.Ytfbanjmooknafaa
open Go.RowKit
set_option linter.unusedSimpArgs false
set_option linter.unusedVariables false
set_option maxRecDepth 100000

/-- what a draw of some names and a text returns -/
def GaveNB (w : World) (e : Ending) (w' : World) : Prop := ∃ (A : Option Addr) (c : Nat) (k : List (List UInt8)) (y : List UInt8), k.length ≤ 21 ∧ (∀ x ∈ k, x.length ≤ 10) ∧ y.length ≤ 300 ∧ e = .returned (.tuple #[.slice A k.length c, .string (bs y)]) ∧ Holds w' A (k.map vs) ∧ Below w.heap.size w w'
theorem txt_small (k : Nat) (h : k ≤ 20) : (P.txt k).length ≤ 2 := by
  unfold P.txt
  rw [if_neg (by omega)]
  exact P.dec_len 2 _ (by omega) (by simp; omega)
theorem row_below {w w' : World} {B : Nat} {T : TypeId} {v : Value} {n : Nat} {xs : List Value} (h : w.ownsRow B T 1 v n xs) (hb : Below w.heap.size w w') : w'.ownsRow B T 1 v n xs := h.kept (row := none) ⟨hb.os, hb.tape, hb.output, hb.size, fun k hk _ => hb.block k hk⟩ (by
  cases hv : v.ownBlock with
  | none => exact .inl rfl
  | some k => exact .inr (fun e => by cases e))
def sliceLen : Value → Nat
  | .slice _ n _ => n
  | _ => 0
theorem slice_len {w : World} {B : Nat} {T : TypeId} {v : Value} {n : Nat} {xs : List Value} (h : w.ownsRow B T 1 v n xs) : sliceLen v = n := by
  obtain ⟨A, c, rfl, _⟩ := slice_own h
  rfl
theorem own_zero {w : World} {B : Nat} {T : TypeId} {b o n c : Nat} {xs : List Value} (h : w.ownsRow B T 1 (.slice (some ⟨b, o, none⟩) n c) n xs) (hn : 0 < n) : B ≤ b ∧ o = 0 := by
  obtain ⟨g, c2, e⟩ := Joins.ownsRow_form h hn
  injection e with e1 _ _
  injection e1 with e1
  injection e1 with e2 e3
  exact ⟨(h.lt b (by rw [e3]; rfl)).1, e3⟩
set_option maxHeartbeats 2000000 in
theorem c_DrawNearestName (A : Option Addr) (n c : Nat) (l : List UInt8) (w : World) (hl : l.length = n) (hn : n ≤ 65536) (h : Holds w A (ub l)) : Calls Try.prog 104 #[.slice A n c] w (GaveNB w) := by
  obtain ⟨i0, hi, hz0, hz1, hz2⟩ := info_parts info_string
  have hcn := cur_new (w := w) (A := A) c 102 h
  rw [hl] at hcn
  obtain ⟨W0, hW0⟩ : ∃ W0, w.alloc (.cells #[.slice A n c, .int .i64 0, .int .u64 0] 102) = W0 := ⟨_, rfl⟩
  rw [hW0] at hcn
  have HC := Lib.hid hcn
  have HL := Lib.hid (show l.length ≤ 70000 by omega)
  clear h hl hcn
  obtain ⟨g, hg⟩ : ∃ g, w.heap.size = g := ⟨_, rfl⟩
  have HGZ := Lib.hid hg
  rw [hg] at HC
  go_enter Try.func104, Try.ntmps104
  go_wp2_with fail
  have HWZ := Lib.hid hW0
  clear hW0 hg
  try rw [HGZ.out]
  have hgl := HC.out.lt
  have hown0 : (W0.alloc (.cells #[] 9)).ownsRow (g + 1) 9 1 (.slice (some ⟨W0.heap.size, 0, none⟩) 0 0) 0 [] := World.ownsRow_made _ _ _ (by omega) (by unfold maxLen; omega) rfl
  refine (c_pick 6 g l _ _ (HC.out.alloc _) (by omega) HL.out (by omega) (by omega)).mono ?_
  rintro e w1 ⟨k, k0, k1, rfl, hc1, hg1⟩
  have HC1 := Lib.hid hc1
  have HO1 := Lib.hid (row_kept hown0 (Nat.lt_succ_self g) hg1)
  have hb1 := cur_below HWZ.out (by rw [HGZ.out]; exact only_trans (grown_alloc (World.grownBy.refl W0 (some g)) _) hg1)
  rw [HGZ.out] at hb1
  have HB1 := Lib.hid hb1
  obtain ⟨k, rfl⟩ : ∃ k' : Nat, k = (k' : Int) := ⟨k.toNat, by omega⟩
  clear hc1 hb1 HC
  go_wp2
  go_loopw [5, 6] (fun v i wr => ∃ (j : Nat) (ls : List (List UInt8)), i = .int .i64 j ∧ j ≤ k ∧ ls.length + j = k ∧ (∀ x ∈ ls, x.length ≤ 10) ∧ wr.ownsRow (g + 1) 9 1 v (ls.map vs).length (ls.map vs) ∧ Cur wr g l (2 + 4 * ls.length) ∧ Below g w wr) (fun _ i _ => (intOf i).toNat)
  case atStart => exact ⟨k, [], rfl, by omega, by simp, by simp, HO1.out, HC1.out.mono (by simp), HB1.out⟩
  case round =>
    obtain ⟨j, ls, rfl, hj, hls, hsum, hown, hcr, hbr⟩ := hrel
    have hgr := hcr.lt
    have HK := Lib.hid hsum
    have hl5 : ls.length ≤ 5 := by omega
    have HLS := Lib.hid hls
    clear HC1 HB1 HO1 hg1 hown0 hsum hls
    by_cases hlt : 0 < j
    · go_wp2_with fail
      refine (c_flightName g l _ _ hcr (by omega) HL.out).mono ?_
      rintro e w4 ⟨x, hx, rfl, hc4, hg4⟩
      have hx3 : x.length ≤ 10 := hx
      have hg4l := hc4.lt
      have hown4 := row_kept hown (Nat.lt_succ_self g) hg4
      have hb4 := below_cur hbr (by omega) hg4
      clear hown hcr hbr hg4 hx
      go_wp2_with (at_builtin; refine wpList_append_own _ rfl _ _ 40 rfl (g + 1) 9 i0 (.string ByteArray.empty) 1 16 Try.underlying40 hi hz0 hz1 hz2 rfl (by decide) _ _ _ rfl (hown4.alloc _) ⟨(w4).heap.size, 0, none⟩ 1 1 [.string (bs x)] rfl rfl (one_new _ _ _) ?a2 ?a3 ?a4 ?a5 ?_)
      case a2 => intro u hu; simp at hu; subst hu; rfl
      case a3 => (unfold maxLen; (try rw [List.length_map]); omega)
      case a4 => first | omega | (rw [List.length_map]; omega)
      case a5 => simp; omega
      intro v1 w5 hown5 hg5 _
      have HC5 := Lib.hid (cur_app hc4 (Nat.lt_succ_self g) (by have := hc4.lt; omega) hown4 hg5)
      have HB5 := Lib.hid (below_app' hb4 hc4 hown4 hg5)
      have HO5 := Lib.hid (show w5.ownsRow (g + 1) 9 1 v1 ((ls ++ [x]).map vs).length ((ls ++ [x]).map vs) by
        rw [List.map_append, List.map_cons, List.map_nil, List.length_append, List.length_map]; exact hown5)
      have HN := Lib.hid (show (ls ++ [x]).length = ls.length + 1 ∧ ∀ y ∈ ls ++ [x], y.length ≤ 10 by
        refine ⟨by simp, fun y hy => ?_⟩
        rcases List.mem_append.1 hy with h | h
        · exact HK.out y h
        · rw [List.mem_singleton.1 h]; exact hx3)
      clear hown5 hg5 hown4 hb4 hc4
      go_wp2
      go_roundw
      case rel => exact ⟨j - 1, ls ++ [x], by go_num, by omega, by rw [HN.out.1]; have := HLS.out; omega, HN.out.2, HO5.out, HC5.out.mono (by rw [HN.out.1]; omega), HB5.out⟩
      case measure => simp [intOf]; omega
    · obtain ⟨A5, c5, hv5, hh5⟩ := slice_own hown
      subst hv5
      rcases Nat.eq_zero_or_pos ls.length with h0 | h0
      · have e0 : ¬ ((0 : Int) < (ls.length : Int)) := by omega
        rw [List.length_map] at hown ⊢
        have hm9 : 2 + 4 * ls.length ≤ 30 := by omega
        have hcr9 := hcr.mono hm9
        clear h0 hh5 hcr
        go_wp2_with fail
        refine (c_one 4 g l _ _ hcr9 (by omega) HL.out (by omega) (by omega)).mono ?_
        rintro e w6 ⟨b6, rfl, hc6, hg6⟩
        have hown6 := row_kept hown (Nat.lt_succ_self g) hg6
        have hb6 := below_cur hbr (by have := (hcr9).lt; omega) hg6
        clear hg6
        cases b6 with
        | false =>
          go_wp2_with fail
          refine (c_anyBits 48 g l _ _ hc6 (by omega) HL.out (by omega)).mono ?_
          rintro e w8 ⟨y, hy, rfl, hc8, hg8⟩
          have hy3 : y.length ≤ 300 := hy
          have hown8 := row_kept hown6 (Nat.lt_succ_self g) hg8
          have hb8 := below_cur hb6 (by have := (hc6).lt; omega) hg8
          clear hy hg8
          have hownE := hown8
          have hbE := hb8
          obtain ⟨A8, c8, hvv, hh8⟩ := slice_own hownE
          first | subst hvv | (injection hvv with e1 _ e3; subst e1; subst e3)
          have HH8 := Lib.hid hh8
          have HB8 := Lib.hid hbE
          try rw [List.length_map]
          clear hownE hh8 hbE
          go_wp2
          go_ret2
          exact ⟨_, _, ls, y, by omega, HK.out, hy3, rfl, HH8.out, by rw [HGZ.out]; exact HB8.out⟩
        | true =>
          go_wp2
          go_loopw [5] (fun v wr => ∃ (zs : List (List UInt8)), zs.length ≤ 21 ∧ (∀ x ∈ zs, x.length ≤ 10) ∧ wr.ownsRow (g + 1) 9 1 v (zs.map vs).length (zs.map vs) ∧ Cur wr g l (1000 + 2 * zs.length) ∧ Below g w wr) (fun v _ => 22 - (sliceLen v))
          case atStart => exact ⟨ls, by omega, HK.out, by first | exact hown6 | (rw [List.length_map]; exact hown6), hc6.mono (by omega), hb6⟩
          case round =>
            clear hown6 hc6 hb6
            obtain ⟨zs, hz21, hzk, hown, hcr, hbr⟩ := hrel
            have HZK := Lib.hid hzk
            have hgr := hcr.lt
            have hvl := slice_len hown
            rw [List.length_map] at hvl
            obtain ⟨A5, c5, hv5, hh5⟩ := slice_own hown
            subst hv5
            clear hzk hh5
            go_wp2_with fail
            refine (c_pick 2 g l _ _ hcr (by omega) HL.out (by omega) (by omega)).mono ?_
            rintro e w7 ⟨p, p0, p1, rfl, hc7, hg7⟩
            have hown7 := row_kept hown (Nat.lt_succ_self g) hg7
            have hb7 := below_cur hbr (by omega) hg7
            have hg7l := hc7.lt
            clear hown hcr hbr hg7
            try rw [List.length_map]
            by_cases hlt : (zs.length : Int) < 20 + p
            · go_wp2_with fail
              refine (c_l1Num _ _ (by omega) (by omega)).mono ?_
              rintro e w9 ⟨rfl, hq9⟩
              have htx := txt_small zs.length (by omega)
              obtain ⟨t, ht⟩ : ∃ t, P.txt (zs.length : Int) = t := ⟨_, rfl⟩
              rw [ht] at htx ⊢
              have hb9 := hq9.below w7.heap.size
              have hown9 := row_below hown7 hb9
              have hc9 := hc7.below hb9
              have hbb9 := hb7.trans (hb9.mono (by omega))
              have hadd : ∀ W, (Op.stringOp .add ⟨#[65]⟩ (bs t)).run Try.prog W = .ok (.string (bs ([65] ++ t))) W := fun W => run_add W [65] t (by simp; omega)
              have hx3 : ([(65 : UInt8)] ++ t).length ≤ 10 := by simp; omega
              have hg9l := hc9.lt
              obtain ⟨x, hx⟩ : ∃ x, [(65 : UInt8)] ++ t = x := ⟨_, rfl⟩
              rw [hx] at hadd hx3
              rw [List.length_map] at hown9
              clear hown7 hc7 hb7 hq9 hb9 ht htx hx
              go_wp2_with (at_builtin; refine wpList_append_own _ rfl _ _ 40 rfl (g + 1) 9 i0 (.string ByteArray.empty) 1 16 Try.underlying40 hi hz0 hz1 hz2 rfl (by decide) _ _ _ rfl (hown9.alloc _) ⟨(w9).heap.size, 0, none⟩ 1 1 [.string (bs x)] rfl rfl (one_new _ _ _) ?b2 ?b3 ?b4 ?b5 ?_)
              case b2 => intro u hu; simp at hu; subst hu; rfl
              case b3 => (unfold maxLen; (try rw [List.length_map]); omega)
              case b4 => first | omega | (rw [List.length_map]; omega)
              case b5 => simp; omega
              intro v1 w5 hown5 hg5 _
              have HC5 := Lib.hid (cur_app hc9 (Nat.lt_succ_self g) (by omega) hown9 hg5)
              have HB5 := Lib.hid (below_app' hbb9 hc9 hown9 hg5)
              have HO5 := Lib.hid (show w5.ownsRow (g + 1) 9 1 v1 ((zs ++ [x]).map vs).length ((zs ++ [x]).map vs) by
                rw [List.length_map, List.map_append, List.map_cons, List.map_nil, List.length_append]; exact hown5)
              have HN := Lib.hid (show (zs ++ [x]).length = zs.length + 1 ∧ ∀ y ∈ zs ++ [x], y.length ≤ 10 by
                refine ⟨by simp, fun y hy => ?_⟩
                rcases List.mem_append.1 hy with h | h
                · exact HZK.out y h
                · rw [List.mem_singleton.1 h]; exact hx3)
              have HVL := Lib.hid (slice_len hown5)
              clear hown5 hg5 hown9 hbb9 hc9
              go_wp2
              go_roundw
              case rel => exact ⟨zs ++ [x], by rw [HN.out.1]; omega, HN.out.2, HO5.out, HC5.out.mono (by rw [HN.out.1]; omega), HB5.out⟩
              case measure =>
                have h1 := HVL.out
                simp only [h1]
                simp [sliceLen]; omega
            · skip
              go_wp2_with fail
              refine (c_anyBits 48 g l _ _ hc7 (by omega) HL.out (by omega)).mono ?_
              rintro e w8 ⟨y, hy, rfl, hc8, hg8⟩
              have hy3 : y.length ≤ 300 := hy
              have hown8 := row_kept hown7 (Nat.lt_succ_self g) hg8
              have hb8 := below_cur hb7 (by have := (hc7).lt; omega) hg8
              clear hy hg8
              have hownE := hown8
              have hbE := hb8
              obtain ⟨A8, c8, hvv, hh8⟩ := slice_own hownE
              first | subst hvv | (injection hvv with e1 _ e3; subst e1; subst e3)
              have HH8 := Lib.hid hh8
              have HB8 := Lib.hid hbE
              try rw [List.length_map]
              clear hownE hh8 hbE
              go_wp2
              go_ret2
              exact ⟨_, _, zs, y, by omega, HZK.out, hy3, rfl, HH8.out, by rw [HGZ.out]; exact HB8.out⟩
      · rw [List.length_map] at hown ⊢
        have hm9 : 2 + 4 * ls.length ≤ 30 := by omega
        have hcr9 := hcr.mono hm9
        obtain ⟨b5, o5, hA5, hcell⟩ := hh5 (fun e => by have h9 : (ls.map vs).length = 0 := (by rw [e]; rfl); rw [List.length_map] at h9; omega)
        subst hA5
        obtain ⟨x0, hx0⟩ : ∃ x0, ls[0] = x0 := ⟨_, rfl⟩
        have hc0 : wr.cell? ⟨b5, o5, none⟩ = some (.string (bs x0)) := hcell 0 _ (by rw [List.getElem?_map, List.getElem?_eq_getElem h0, hx0]; rfl)
        have hxl : x0.length ≤ 10 := HK.out x0 (by rw [← hx0]; exact List.getElem_mem _)
        have HX0 := Lib.hid (show (ls.map vs)[0]? = some (.string (bs x0)) by rw [List.getElem?_map, List.getElem?_eq_getElem h0, hx0]; rfl)
        have hp0 : (0 : Int) < (ls.length : Int) := by omega
        clear hcr hcell hx0
        go_wp2_with fail
        refine (c_l3Name_l x0 _ (by unfold maxLen; omega)).mono ?_
        rintro e w' ⟨rfl, rfl⟩
        cases hnm : P.nameB x0 with
        | false =>
          clear hnm
          go_wp2_with fail
          refine (c_one 4 g l _ _ hcr9 (by omega) HL.out (by omega) (by omega)).mono ?_
          rintro e w6 ⟨b6, rfl, hc6, hg6⟩
          have hown6 := row_kept hown (Nat.lt_succ_self g) hg6
          have hb6 := below_cur hbr (by have := (hcr9).lt; omega) hg6
          clear hg6
          cases b6 with
          | false =>
            go_wp2_with fail
            refine (c_anyBits 48 g l _ _ hc6 (by omega) HL.out (by omega)).mono ?_
            rintro e w8 ⟨y, hy, rfl, hc8, hg8⟩
            have hy3 : y.length ≤ 300 := hy
            have hown8 := row_kept hown6 (Nat.lt_succ_self g) hg8
            have hb8 := below_cur hb6 (by have := (hc6).lt; omega) hg8
            clear hy hg8
            have hownE := hown8
            have hbE := hb8
            obtain ⟨A8, c8, hvv, hh8⟩ := slice_own hownE
            first | subst hvv | (injection hvv with e1 _ e3; subst e1; subst e3)
            have HH8 := Lib.hid hh8
            have HB8 := Lib.hid hbE
            try rw [List.length_map]
            clear hownE hh8 hbE
            go_wp2
            go_ret2
            exact ⟨_, _, ls, y, by omega, HK.out, hy3, rfl, HH8.out, by rw [HGZ.out]; exact HB8.out⟩
          | true =>
            go_wp2
            go_loopw [5] (fun v wr => ∃ (zs : List (List UInt8)), zs.length ≤ 21 ∧ (∀ x ∈ zs, x.length ≤ 10) ∧ wr.ownsRow (g + 1) 9 1 v (zs.map vs).length (zs.map vs) ∧ Cur wr g l (1000 + 2 * zs.length) ∧ Below g w wr) (fun v _ => 22 - (sliceLen v))
            case atStart => exact ⟨ls, by omega, HK.out, by first | exact hown6 | (rw [List.length_map]; exact hown6), hc6.mono (by omega), hb6⟩
            case round =>
              clear hown6 hc6 hb6
              obtain ⟨zs, hz21, hzk, hown, hcr, hbr⟩ := hrel
              have HZK := Lib.hid hzk
              have hgr := hcr.lt
              have hvl := slice_len hown
              rw [List.length_map] at hvl
              obtain ⟨A5, c5, hv5, hh5⟩ := slice_own hown
              subst hv5
              clear hzk hh5
              go_wp2_with fail
              refine (c_pick 2 g l _ _ hcr (by omega) HL.out (by omega) (by omega)).mono ?_
              rintro e w7 ⟨p, p0, p1, rfl, hc7, hg7⟩
              have hown7 := row_kept hown (Nat.lt_succ_self g) hg7
              have hb7 := below_cur hbr (by omega) hg7
              have hg7l := hc7.lt
              clear hown hcr hbr hg7
              try rw [List.length_map]
              by_cases hlt : (zs.length : Int) < 20 + p
              · go_wp2_with fail
                refine (c_l1Num _ _ (by omega) (by omega)).mono ?_
                rintro e w9 ⟨rfl, hq9⟩
                have htx := txt_small zs.length (by omega)
                obtain ⟨t, ht⟩ : ∃ t, P.txt (zs.length : Int) = t := ⟨_, rfl⟩
                rw [ht] at htx ⊢
                have hb9 := hq9.below w7.heap.size
                have hown9 := row_below hown7 hb9
                have hc9 := hc7.below hb9
                have hbb9 := hb7.trans (hb9.mono (by omega))
                have hadd : ∀ W, (Op.stringOp .add ⟨#[65]⟩ (bs t)).run Try.prog W = .ok (.string (bs ([65] ++ t))) W := fun W => run_add W [65] t (by simp; omega)
                have hx3 : ([(65 : UInt8)] ++ t).length ≤ 10 := by simp; omega
                have hg9l := hc9.lt
                obtain ⟨x, hx⟩ : ∃ x, [(65 : UInt8)] ++ t = x := ⟨_, rfl⟩
                rw [hx] at hadd hx3
                rw [List.length_map] at hown9
                clear hown7 hc7 hb7 hq9 hb9 ht htx hx
                go_wp2_with (at_builtin; refine wpList_append_own _ rfl _ _ 40 rfl (g + 1) 9 i0 (.string ByteArray.empty) 1 16 Try.underlying40 hi hz0 hz1 hz2 rfl (by decide) _ _ _ rfl (hown9.alloc _) ⟨(w9).heap.size, 0, none⟩ 1 1 [.string (bs x)] rfl rfl (one_new _ _ _) ?c2 ?c3 ?c4 ?c5 ?_)
                case c2 => intro u hu; simp at hu; subst hu; rfl
                case c3 => (unfold maxLen; (try rw [List.length_map]); omega)
                case c4 => first | omega | (rw [List.length_map]; omega)
                case c5 => simp; omega
                intro v1 w5 hown5 hg5 _
                have HC5 := Lib.hid (cur_app hc9 (Nat.lt_succ_self g) (by omega) hown9 hg5)
                have HB5 := Lib.hid (below_app' hbb9 hc9 hown9 hg5)
                have HO5 := Lib.hid (show w5.ownsRow (g + 1) 9 1 v1 ((zs ++ [x]).map vs).length ((zs ++ [x]).map vs) by
                  rw [List.length_map, List.map_append, List.map_cons, List.map_nil, List.length_append]; exact hown5)
                have HN := Lib.hid (show (zs ++ [x]).length = zs.length + 1 ∧ ∀ y ∈ zs ++ [x], y.length ≤ 10 by
                  refine ⟨by simp, fun y hy => ?_⟩
                  rcases List.mem_append.1 hy with h | h
                  · exact HZK.out y h
                  · rw [List.mem_singleton.1 h]; exact hx3)
                have HVL := Lib.hid (slice_len hown5)
                clear hown5 hg5 hown9 hbb9 hc9
                go_wp2
                go_roundw
                case rel => exact ⟨zs ++ [x], by rw [HN.out.1]; omega, HN.out.2, HO5.out, HC5.out.mono (by rw [HN.out.1]; omega), HB5.out⟩
                case measure =>
                  have h1 := HVL.out
                  simp only [h1]
                  simp [sliceLen]; omega
              · skip
                go_wp2_with fail
                refine (c_anyBits 48 g l _ _ hc7 (by omega) HL.out (by omega)).mono ?_
                rintro e w8 ⟨y, hy, rfl, hc8, hg8⟩
                have hy3 : y.length ≤ 300 := hy
                have hown8 := row_kept hown7 (Nat.lt_succ_self g) hg8
                have hb8 := below_cur hb7 (by have := (hc7).lt; omega) hg8
                clear hy hg8
                have hownE := hown8
                have hbE := hb8
                obtain ⟨A8, c8, hvv, hh8⟩ := slice_own hownE
                first | subst hvv | (injection hvv with e1 _ e3; subst e1; subst e3)
                have HH8 := Lib.hid hh8
                have HB8 := Lib.hid hbE
                try rw [List.length_map]
                clear hownE hh8 hbE
                go_wp2
                go_ret2
                exact ⟨_, _, zs, y, by omega, HZK.out, hy3, rfl, HH8.out, by rw [HGZ.out]; exact HB8.out⟩
        | true =>
          have HNM := Lib.hid hnm
          clear hnm
          have hb5g : g + 1 ≤ b5 := (own_zero hown h0).1
          have ho5 : o5 = 0 := (own_zero hown h0).2
          subst ho5
          go_wp2_with fail
          refine (c_one 4 g l _ _ hcr9 (by omega) HL.out (by omega) (by omega)).mono ?_
          rintro e w3 ⟨b3, rfl, hc3, hg3⟩
          have hown3 := row_kept hown (Nat.lt_succ_self g) hg3
          have hb3 := below_cur hbr (by omega) hg3
          clear hown hcr9 hbr hc0
          cases b3 with
          | true =>
            go_wp2_with fail
            refine (c_one 4 g l _ _ hc3 (by omega) HL.out (by omega) (by omega)).mono ?_
            rintro e w6 ⟨b6, rfl, hc6, hg6⟩
            have hown6 := row_kept hown3 (Nat.lt_succ_self g) hg6
            have hb6 := below_cur hb3 (by have := (hc3).lt; omega) hg6
            clear hg6
            cases b6 with
            | false =>
              go_wp2_with fail
              refine (c_anyBits 48 g l _ _ hc6 (by omega) HL.out (by omega)).mono ?_
              rintro e w8 ⟨y, hy, rfl, hc8, hg8⟩
              have hy3 : y.length ≤ 300 := hy
              have hown8 := row_kept hown6 (Nat.lt_succ_self g) hg8
              have hb8 := below_cur hb6 (by have := (hc6).lt; omega) hg8
              clear hy hg8
              have hownE := hown8
              have hbE := hb8
              obtain ⟨A8, c8, hvv, hh8⟩ := slice_own hownE
              first | subst hvv | (injection hvv with e1 _ e3; subst e1; subst e3)
              have HH8 := Lib.hid hh8
              have HB8 := Lib.hid hbE
              try rw [List.length_map]
              clear hownE hh8 hbE
              go_wp2
              go_ret2
              exact ⟨_, _, ls, y, by omega, HK.out, hy3, rfl, HH8.out, by rw [HGZ.out]; exact HB8.out⟩
            | true =>
              go_wp2
              go_loopw [5] (fun v wr => ∃ (zs : List (List UInt8)), zs.length ≤ 21 ∧ (∀ x ∈ zs, x.length ≤ 10) ∧ wr.ownsRow (g + 1) 9 1 v (zs.map vs).length (zs.map vs) ∧ Cur wr g l (1000 + 2 * zs.length) ∧ Below g w wr) (fun v _ => 22 - (sliceLen v))
              case atStart => exact ⟨ls, by omega, HK.out, by first | exact hown6 | (rw [List.length_map]; exact hown6), hc6.mono (by omega), hb6⟩
              case round =>
                clear hown6 hc6 hb6
                obtain ⟨zs, hz21, hzk, hown, hcr, hbr⟩ := hrel
                have HZK := Lib.hid hzk
                have hgr := hcr.lt
                have hvl := slice_len hown
                rw [List.length_map] at hvl
                obtain ⟨A5, c5, hv5, hh5⟩ := slice_own hown
                subst hv5
                clear hzk hh5
                go_wp2_with fail
                refine (c_pick 2 g l _ _ hcr (by omega) HL.out (by omega) (by omega)).mono ?_
                rintro e w7 ⟨p, p0, p1, rfl, hc7, hg7⟩
                have hown7 := row_kept hown (Nat.lt_succ_self g) hg7
                have hb7 := below_cur hbr (by omega) hg7
                have hg7l := hc7.lt
                clear hown hcr hbr hg7
                try rw [List.length_map]
                by_cases hlt : (zs.length : Int) < 20 + p
                · go_wp2_with fail
                  refine (c_l1Num _ _ (by omega) (by omega)).mono ?_
                  rintro e w9 ⟨rfl, hq9⟩
                  have htx := txt_small zs.length (by omega)
                  obtain ⟨t, ht⟩ : ∃ t, P.txt (zs.length : Int) = t := ⟨_, rfl⟩
                  rw [ht] at htx ⊢
                  have hb9 := hq9.below w7.heap.size
                  have hown9 := row_below hown7 hb9
                  have hc9 := hc7.below hb9
                  have hbb9 := hb7.trans (hb9.mono (by omega))
                  have hadd : ∀ W, (Op.stringOp .add ⟨#[65]⟩ (bs t)).run Try.prog W = .ok (.string (bs ([65] ++ t))) W := fun W => run_add W [65] t (by simp; omega)
                  have hx3 : ([(65 : UInt8)] ++ t).length ≤ 10 := by simp; omega
                  have hg9l := hc9.lt
                  obtain ⟨x, hx⟩ : ∃ x, [(65 : UInt8)] ++ t = x := ⟨_, rfl⟩
                  rw [hx] at hadd hx3
                  rw [List.length_map] at hown9
                  clear hown7 hc7 hb7 hq9 hb9 ht htx hx
                  go_wp2_with (at_builtin; refine wpList_append_own _ rfl _ _ 40 rfl (g + 1) 9 i0 (.string ByteArray.empty) 1 16 Try.underlying40 hi hz0 hz1 hz2 rfl (by decide) _ _ _ rfl (hown9.alloc _) ⟨(w9).heap.size, 0, none⟩ 1 1 [.string (bs x)] rfl rfl (one_new _ _ _) ?d2 ?d3 ?d4 ?d5 ?_)
                  case d2 => intro u hu; simp at hu; subst hu; rfl
                  case d3 => (unfold maxLen; (try rw [List.length_map]); omega)
                  case d4 => first | omega | (rw [List.length_map]; omega)
                  case d5 => simp; omega
                  intro v1 w5 hown5 hg5 _
                  have HC5 := Lib.hid (cur_app hc9 (Nat.lt_succ_self g) (by omega) hown9 hg5)
                  have HB5 := Lib.hid (below_app' hbb9 hc9 hown9 hg5)
                  have HO5 := Lib.hid (show w5.ownsRow (g + 1) 9 1 v1 ((zs ++ [x]).map vs).length ((zs ++ [x]).map vs) by
                    rw [List.length_map, List.map_append, List.map_cons, List.map_nil, List.length_append]; exact hown5)
                  have HN := Lib.hid (show (zs ++ [x]).length = zs.length + 1 ∧ ∀ y ∈ zs ++ [x], y.length ≤ 10 by
                    refine ⟨by simp, fun y hy => ?_⟩
                    rcases List.mem_append.1 hy with h | h
                    · exact HZK.out y h
                    · rw [List.mem_singleton.1 h]; exact hx3)
                  have HVL := Lib.hid (slice_len hown5)
                  clear hown5 hg5 hown9 hbb9 hc9
                  go_wp2
                  go_roundw
                  case rel => exact ⟨zs ++ [x], by rw [HN.out.1]; omega, HN.out.2, HO5.out, HC5.out.mono (by rw [HN.out.1]; omega), HB5.out⟩
                  case measure =>
                    have h1 := HVL.out
                    simp only [h1]
                    simp [sliceLen]; omega
                · skip
                  go_wp2_with fail
                  refine (c_anyBits 48 g l _ _ hc7 (by omega) HL.out (by omega)).mono ?_
                  rintro e w8 ⟨y, hy, rfl, hc8, hg8⟩
                  have hy3 : y.length ≤ 300 := hy
                  have hown8 := row_kept hown7 (Nat.lt_succ_self g) hg8
                  have hb8 := below_cur hb7 (by have := (hc7).lt; omega) hg8
                  clear hy hg8
                  have hownE := hown8
                  have hbE := hb8
                  obtain ⟨A8, c8, hvv, hh8⟩ := slice_own hownE
                  first | subst hvv | (injection hvv with e1 _ e3; subst e1; subst e3)
                  have HH8 := Lib.hid hh8
                  have HB8 := Lib.hid hbE
                  try rw [List.length_map]
                  clear hownE hh8 hbE
                  go_wp2
                  go_ret2
                  exact ⟨_, _, zs, y, by omega, HZK.out, hy3, rfl, HH8.out, by rw [HGZ.out]; exact HB8.out⟩
          | false =>
            have hc0 : w3.cell? ⟨b5, 0, none⟩ = some (.string (bs x0)) := by
              rw [hown3.cellAt 0 (by omega)]; exact HX0.out
            go_wp2_with fail
            refine (c_l3Bits (bs x0) _ HNM.out).mono ?_
            rintro e w' ⟨rfl, rfl⟩
            have hbl := P.nbL_len x0
            have hbb := P.nbL_bits x0
            obtain ⟨t, ht⟩ : ∃ t, P.nbL (B (bs x0)) = t := ⟨_, rfl⟩
            rw [show P.nbL x0 = t from ht] at hbl hbb
            rw [ht]
            have HBL := Lib.hid hbl
            have HBB := Lib.hid hbb
            have hg3l := hc3.lt
            clear ht hbl hbb hc0
            go_wp2_with fail
            refine (c_pick 4 g l _ _ hc3 (by omega) HL.out (by omega) (by omega)).mono ?_
            rintro e w4 ⟨k4, k40, k41, rfl, hc4, hg4⟩
            have hown4 := row_kept hown3 (Nat.lt_succ_self g) hg4
            have hb4 := below_cur hb3 (by omega) hg4
            obtain ⟨k4, rfl⟩ : ∃ k' : Nat, k4 = (k' : Int) := ⟨k4.toNat, by omega⟩
            clear hown3 hb3 hc3 hg4
            go_wp2
            go_loopw [7, 8] (fun s i wr => ∃ (j : Nat) (y : List UInt8), j ≤ k4 ∧ i = .int .i64 j ∧ s = .string (bs y) ∧ y.length = 48 ∧ y.all P.bitB = true ∧ Cur wr g l (50 + 2 * (k4 - j)) ∧ wr.ownsRow (g + 1) 9 1 (.slice (some ⟨b5, 0, none⟩) ls.length c5) ls.length (ls.map vs) ∧ Below g w wr) (fun _ i _ => (intOf i).toNat)
            case atStart => exact ⟨k4, t, Nat.le_refl _, rfl, rfl, HBL.out, HBB.out, hc4.mono (by omega), hown4, hb4⟩
            case round =>
              clear hc4 hown4 hb4 HBL HBB
              obtain ⟨j, y, hj, rfl, rfl, hy, hyb, hcr, hown, hbr⟩ := hrel
              have HY := Lib.hid hy
              have HYB := Lib.hid hyb
              clear hyb hy
              by_cases hlt : 0 < j
              · go_wp2_with fail
                refine (c_pick 48 g l _ _ hcr (by omega) HL.out (by omega) (by omega)).mono ?_
                rintro e w5 ⟨p, p0, p1, rfl, hc5, hg5⟩
                have hown5 := row_kept hown (Nat.lt_succ_self g) hg5
                have hb5 := below_cur hbr (by have := hcr.lt; omega) hg5
                obtain ⟨p, rfl⟩ : ∃ p' : Nat, p = (p' : Int) := ⟨p.toNat, by omega⟩
                have HFL := Lib.hid (P.flipL_len y p)
                have HFB := Lib.hid (P.flipL_bits HYB.out p)
                clear hown hcr hbr hg5
                go_wp2_with fail
                refine (c_l2Flip (bs y) p _ (by rw [bs_size, HY.out]; omega) (by rw [bs_size, HY.out]; omega) HYB.out).mono ?_
                rintro e w6 ⟨rfl, hq6⟩
                have HC6 := Lib.hid (hc5.below (hq6.below _))
                have HO6 := Lib.hid (row_below hown5 (hq6.below _))
                have HB6 := Lib.hid (hb5.trans ((hq6.below w5.heap.size).mono (by have := hc5.lt; omega)))
                obtain ⟨q6, rfl⟩ := hq6
                go_wp2
                go_roundw
                case rel => exact ⟨j - 1, P.flipL (B (bs y)) p, by omega, by go_num, rfl, by rw [B_bs, HFL.out]; exact HY.out, by rw [B_bs]; exact HFB.out, HC6.out.mono (by omega), HO6.out, HB6.out⟩
                case measure => simp [intOf]; omega
              · have hy3 : y.length ≤ 300 := by rw [HY.out]; omega
                have hownE := hown
                have hbE := hbr
                obtain ⟨A8, c8, hvv, hh8⟩ := slice_own hownE
                first | subst hvv | (injection hvv with e1 _ e3; subst e1; subst e3)
                have HH8 := Lib.hid hh8
                have HB8 := Lib.hid hbE
                try rw [List.length_map]
                clear hownE hh8 hbE
                go_wp2
                go_ret2
                exact ⟨_, _, ls, y, by omega, HK.out, hy3, rfl, HH8.out, by rw [HGZ.out]; exact HB8.out⟩
end Go.Proofs.Ytfbanjmooknafaa
