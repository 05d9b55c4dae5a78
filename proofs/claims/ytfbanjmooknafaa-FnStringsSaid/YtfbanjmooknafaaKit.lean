/-
  Small general facts for the walks: strings as lists of bytes, endings, the row's last step.
-/
import Derived.Test.YtfbanjmooknafaaRows
import Derived.Test.YtfbanjmooknafaaPlain
import Derived.WalkKit
import Derived.ProofKit
import Derived.OpenShut
import Derived.ShutString
import Derived.ChangeOld
import Derived.Below
import Derived.Lib.Hide
import Derived.Lib.Strings
import Derived.Outline
import Derived.Deep.QuietTactic
import Derived.BigQuiet
import Derived.Deep.Draws
import Derived.IntWalk
import Derived.Laws.BitsAllLaws
import Derived.Laws.BytesArg
import Derived.Laws.BitsLemmas
import Derived.WalkSpells
import Derived.WalkLawsBesides
namespace Go.Proofs.Ytfbanjmooknafaa
open Go.RowKit Go.WideShapes Go.ChangeShapes
set_option linter.unusedSimpArgs false
set_option linter.unusedVariables false

/-- the bytes of a string -/
def B (s : ByteArray) : List UInt8 := s.data.toList
/-- the string of some bytes -/
def bs (l : List UInt8) : ByteArray := ⟨l.toArray⟩
theorem B_bs (l : List UInt8) : B (bs l) = l := rfl
theorem bs_B (s : ByteArray) : bs (B s) = s := rfl
theorem B_inj {a b : ByteArray} (h : B a = B b) : a = b := by
  rw [← bs_B a, ← bs_B b, h]
theorem B_len (s : ByteArray) : (B s).length = s.size := by simp [B]
theorem bs_size (l : List UInt8) : (bs l).size = l.length := by rw [← B_len, B_bs]
theorem B_add (a b : ByteArray) : B (a ++ b) = B a ++ B b := by simp [B]
theorem B_ext (s : ByteArray) (a b : Nat) : B (s.extract a b) = ((B s).drop a).take (b - a) := Lib.extract_data s a b
theorem take_snoc (s : ByteArray) (k : Nat) (h : k < s.size) : (B s).take (k + 1) = (B s).take k ++ [s[k]] := by
  rw [List.take_succ_eq_append_getElem (by rw [B_len]; exact h)]; rfl
theorem take_all (s : ByteArray) (k : Nat) (h : ¬ k < s.size) : (B s).take k = B s := List.take_of_length_le (by rw [B_len]; omega)
theorem ret_int {k : IntKind} {a b : Int} (h : a = b) : Ending.returned (.int k a) = .returned (.int k b) := by rw [h]
theorem ret_ib {k : IntKind} {a a' : Int} {b b' : Bool} (h : a = a') (h2 : b = b') : Ending.returned (.tuple #[.int k a, .bool b]) = .returned (.tuple #[.int k a', .bool b']) := by rw [h, h2]
theorem ret_ibb {k : IntKind} {a a' : Int} {b b' c c' : Bool} (h : a = a') (h2 : b = b') (h3 : c = c') : Ending.returned (.tuple #[.int k a, .bool b, .bool c]) = .returned (.tuple #[.int k a', .bool b', .bool c']) := by rw [h, h2, h3]
theorem ret_iib {k : IntKind} {a a' b b' : Int} {c c' : Bool} (h : a = a') (h2 : b = b') (h3 : c = c') : Ending.returned (.tuple #[.int k a, .int k b, .bool c]) = .returned (.tuple #[.int k a', .int k b', .bool c']) := by rw [h, h2, h3]
theorem ret_sb {a a' : ByteArray} {b b' : Bool} (h : B a = B a') (h2 : b = b') : Ending.returned (.tuple #[.string a, .bool b]) = .returned (.tuple #[.string a', .bool b']) := by rw [B_inj h, h2]
theorem ret_sib {k : IntKind} {a a' : ByteArray} {n n' : Int} {b b' : Bool} (h : B a = B a') (h1 : n = n') (h2 : b = b') : Ending.returned (.tuple #[.string a, .int k n, .bool b]) = .returned (.tuple #[.string a', .int k n', .bool b']) := by rw [B_inj h, h1, h2]
theorem ret_bool {b b' : Bool} (h2 : b = b') : Ending.returned (.bool b) = .returned (.bool b') := by rw [h2]
theorem ret_bs {a b : List UInt8} (h : a = b) : Ending.returned (.string (bs a)) = .returned (.string (bs b)) := by rw [h]
theorem ret_str {a b : ByteArray} (h : B a = B b) : Ending.returned (.string a) = .returned (.string b) := by rw [B_inj h]

theorem B_get (s : ByteArray) (k : Nat) (h : k < s.size) : (B s)[k]'(by rw [B_len]; exact h) = s[k] := rfl
theorem B_get? (s : ByteArray) (k : Nat) (h : k < s.size) : (B s)[k]? = some s[k] := by rw [List.getElem?_eq_getElem (by rw [B_len]; exact h)]; rfl
theorem B_head (s : ByteArray) (h : 0 < s.size) : (B s).head? = some s[0] := by rw [List.head?_eq_getElem?, B_get? s 0 h]
section
variable {H : Type} {enc : TypeId × Value → H} {P : Program}
/-- the row's last step where of the world 'Below' alone is known -/
theorem post_below {f : Func} {s : ChangeSpec} {apart fresh handsOn again : Bool} {W W' : World} {args : Array Value} {v : Value} {ds gs : List (DataW H)} {before pa pv : List MemPlace}
    (hW : DataW.Whole enc P f.params.toList s.vars apart W args.toList ds gs before)
    (hres : ∀ (b : Nat) (sp : Nat → Bool) (hd : Bool), DataW.TrodAll enc P W' b sp hd f.resultTypes.toList (v.resultList f.resultTypes.size) (s.fn H (ds ++ gs)).results [])
    (hargs : ∀ sp : Nat → Bool, (∀ p ∈ before, sp p.block = true) → DataW.TrodAll enc P W' 0 sp true f.params.toList args.toList (s.fn H (ds ++ gs)).args pa)
    (hvars : ∀ sp : Nat → Bool, (∀ p ∈ before, sp p.block = true) → DataW.TrodVars enc P W' sp s.vars (s.fn H (ds ++ gs)).vars pv)
    (hps : before = pa ++ pv) (hb : Below W.heap.size W W')
    (hok : ∀ (j : Nat) (t : TypeId) (r : Value), f.resultTypes[j]? = some t → (v.resultList f.resultTypes.size)[j]? = some r → Value.okWide P W' .any 0 t r) :
    s.post enc P f apart fresh handsOn again W args v W' := by
  have hlt : ∀ p ∈ before, p.block < W.heap.size := fun p hp => hW.lt p hp
  have hold : ∀ p ∈ before, (fun b => decide (b < W.heap.size)) p.block = true := fun p hp => by simpa using hlt p hp
  refine ⟨ds, gs, before, [], pa, pv, hW, hres _ _ _, hargs _ hold, hvars _ hold, World.keptBut_mono (fun p hp => ⟨hp, ?_⟩) (hb.frame (· ∈ before)), fun _ => ?_⟩
  · rw [hps, List.mem_append] at hp
    exact Or.inr hp
  · obtain ⟨_, _, _, _, _, hz, hn⟩ := hW
    refine ⟨hok, _, _, ([] ++ pa) ++ pv, ⟨[] ++ pa, pv, trodAll_append (hargs _ (fun _ _ => rfl)) (hres _ _ _), hvars _ (fun _ _ => rfl), rfl, ?_, ?_⟩, ?_⟩
    · intro b off hp
      have hin : MemPlace.cell b off ∈ before := by rw [hps]; simpa using hp
      rw [hb.frozen (hlt _ hin)]
      exact hz b off hin
    · intro ha
      have := hn ha
      rw [hps] at this
      simpa using this
    · intro p hp _
      rw [hps]
      simpa using hp
end

section
variable {P : Program}
theorem bs_app (a b : List UInt8) : bs a ++ bs b = bs (a ++ b) := ByteArray.mk_append_mk a b
theorem run_add (W : World) (a b : List UInt8) (h : a.length + b.length ≤ 9223372036854775807) : (Op.stringOp .add (bs a) (bs b)).run P W = .ok (.string (bs (a ++ b))) W := by
  rw [run_string_add_sum W (bs a) (bs b) (by rw [bs_size, bs_size]; exact h), bs_app]
theorem run_add_s (W : World) (a b : ByteArray) (h : (B a).length + (B b).length ≤ 9223372036854775807) : (Op.stringOp .add a b).run P W = .ok (.string (bs (B a ++ B b))) W := by
  have := run_add (P := P) W (B a) (B b) h
  rwa [bs_B, bs_B] at this
/-- 'string([]byte{c})' -/
theorem run_str_one (src dst e : TypeId) (hs : P.underlying src = some (.slice e)) (he : P.underlying e = some (.int .u8)) (hd : P.underlying dst = some .string) (W : World) (x : Int) :
    (convert src dst (.slice (some ⟨W.heap.size, 0, none⟩) 1 1)).run P (W.alloc (.cells #[.int .u8 x] e)) = .ok (.string (bs [UInt8.ofNat x.toNat])) (W.alloc (.cells #[.int .u8 x] e)) :=
  run_convert_bytes_arg (P := P) (W.alloc (.cells #[.int .u8 x] e)) src e hs he W.heap.size 0 1 1 [x] rfl (fun i hi => by
    obtain rfl : i = 0 := by omega
    simp) dst hd
end

/-- the world has drawn, and nothing else -/
def Qt (w w' : World) : Prop := ∃ m, w' = w.drewN m
theorem Qt.refl (w : World) : Qt w w := ⟨0, rfl⟩
theorem Qt.of (w : World) (m : Nat) : Qt w (w.drewN m) := ⟨m, rfl⟩
theorem Qt.trans {a b c : World} (h : Qt a b) (k : Qt b c) : Qt a c := by
  obtain ⟨m, rfl⟩ := h
  obtain ⟨j, rfl⟩ := k
  exact ⟨m + j, by rw [World.drewN_drewN]⟩
theorem below_drewN {B : Nat} {a w : World} (h : Below B a w) (n : Nat) : Below B a (w.drewN n) := ⟨h.os, h.tape, h.output, h.size, h.block⟩
theorem Qt.below {w w' : World} (h : Qt w w') (B : Nat) : Below B w w' := by
  obtain ⟨m, rfl⟩ := h
  exact below_drewN (Below.refl _ _) m
theorem Qt.cell {w w' : World} (h : Qt w w') (p : Addr) : w'.cell? p = w.cell? p := by
  obtain ⟨m, rfl⟩ := h
  rfl
theorem quiet_call {P : Program} {f : FuncId} {args : Array Value} {w : World} {n : Nat} {v : Value}
    (h : Calls P f args (w.drewN n) fun e w' => e = .returned v ∧ Qt (w.drewN n) w') : Calls P f args (w.drewN n) fun e w'' => e = .returned v ∧ ∃ m, w'' = w.drewN m :=
  h.mono fun _ _ ⟨he, m, hm⟩ => ⟨he, n + m, by rw [hm, World.drewN_drewN]⟩

theorem cmp_eq {a b : ByteArray} (h : B a = B b) : (a.toList == b.toList) = true := by
  rw [ByteArray.toList_eq, ByteArray.toList_eq]; exact beq_iff_eq.2 h
theorem cmp_ne {a b : ByteArray} (h : B a ≠ B b) : (a.toList == b.toList) = false := by
  rw [ByteArray.toList_eq, ByteArray.toList_eq]; exact beq_eq_false_iff_ne.2 h

/-- a string as a cell -/
def vs (l : List UInt8) : Value := .string (bs l)
theorem vs_cut (s : ByteArray) (a b : Nat) : Value.string (s.extract a b) = vs (((B s).drop a).take (b - a)) := by
  unfold vs; rw [← B_ext]; rfl
theorem below_app {B e n : Nat} {w wr w1 : World} {v : Value} {xs : List Value} {o : Obj} (hb : Below B w wr) (hB : B ≤ wr.heap.size) (hown : wr.ownsRow B e 1 v n xs) (hg : (wr.alloc o).grownBy w1 v.ownBlock) : Below B w w1 :=
  (hb.alloc hB o).grown hg (by simp; omega) (fun k hk => (hown.lt k hk).1)
theorem one_new (w : World) (u : Value) (t : TypeId) : ∀ (j : Nat) (x : Value), [u][j]? = some x → (w.alloc (.cells #[u] t)).cell? ((⟨w.heap.size, 0, none⟩ : Addr).add j) = some x := by
  intro j x hj
  match j, hj with
  | 0, hj => simp at hj; subst hj; simp [Addr.add]
/-- the call returns a slice of one-cell elements in memory of its own -/
def RetRow (T : TypeId) (w : World) (l : List Value) (e : Ending) (w' : World) : Prop :=
  ∃ g cap, e = .returned (.slice (some ⟨g, 0, none⟩) l.length cap) ∧ w'.ownsRow w.heap.size T 1 (.slice (some ⟨g, 0, none⟩) l.length cap) l.length l ∧ Below w.heap.size w w'
theorem own_form {w : World} {base e n : Nat} {v : Value} {xs : List Value} (h : w.ownsRow base e 1 v n xs) (hn : 0 < n) : ∃ g cap, v = .slice (some ⟨g, 0, none⟩) n cap ∧ base ≤ g := by
  rcases h.2 with ⟨_, h0⟩ | ⟨g, cap, cur, hv, hg, _⟩
  · omega
  · exact ⟨g, cap, hv, hg⟩
theorem ret_row {T : TypeId} {w w' : World} {v : Value} {l : List Value} {n : Nat} (hn : n = l.length) (h0 : 0 < l.length) (hown : w'.ownsRow w.heap.size T 1 v n l) (hb : Below w.heap.size w w') : RetRow T w l (.returned v) w' := by
  subst hn
  obtain ⟨g, cap, rfl, _⟩ := own_form hown h0
  exact ⟨g, cap, rfl, hown, hb⟩
/-- the call returns a slice of its own and a bool -/
def RetRowB (T : TypeId) (w : World) (l : List Value) (ok : Bool) (e : Ending) (w' : World) : Prop :=
  ∃ A cap, e = .returned (.tuple #[.slice A l.length cap, .bool ok]) ∧ w'.ownsRow w.heap.size T 1 (.slice A l.length cap) l.length l ∧ Below w.heap.size w w'
theorem ofInt_i64 (a : Nat) (ha : a < 9223372036854775808) : (BitVec.ofInt 64 (a : Int)).toNat = a := by
  rw [BitVec.ofInt_natCast, BitVec.toNat_ofNat]; exact Nat.mod_eq_of_lt (by omega)
theorem i64_xor (a b : Nat) (ha : a < 9223372036854775808) (hb : b < 9223372036854775808) : bits .xor .i64 (a : Int) (b : Int) = ((a ^^^ b : Nat) : Int) := by
  have hx : a ^^^ b < 2 ^ 63 := Nat.xor_lt_two_pow (by omega) (by omega)
  show IntKind.i64.wrap ((BitVec.ofInt 64 (a : Int) ^^^ BitVec.ofInt 64 (b : Int)).toNat : Int) = _
  rw [BitVec.toNat_xor, ofInt_i64 a ha, ofInt_i64 b hb, IntKind.wrap_i64]
  omega
/-- bytes as cells -/
def ub (l : List UInt8) : List Value := l.map fun c => Value.int .u8 (c.toNat : Int)
theorem ub_app (a b : List UInt8) : ub (a ++ b) = ub a ++ ub b := by simp [ub]
theorem ub_len (l : List UInt8) : (ub l).length = l.length := by simp [ub]
theorem ub_at {l : List UInt8} {k : Nat} (h : k < l.length) : (ub l)[k]? = some (.int .u8 ((l[k]).toNat : Int)) := by
  unfold ub; rw [List.getElem?_map, List.getElem?_eq_getElem h]; rfl
theorem ub_set (l : List UInt8) (k : Nat) (c : UInt8) : (ub l).set k (.int .u8 (c.toNat : Int)) = ub (l.set k c) := by
  unfold ub; rw [List.map_set]
theorem strOfNums_ub (l : List UInt8) : strOfNums (l.map fun c => (c.toNat : Int)) = bs l := by
  apply B_inj
  unfold B
  rw [strOfNums_data, List.map_map]
  show _ = l
  conv => rhs; rw [← List.map_id l]
  apply List.map_congr_left
  intro c _
  simp
section
variable {P : Program}
/-- 'string(b)' of a row of the call's own -/
theorem run_str_row (src dst e : TypeId) (hs : P.underlying src = some (.slice e)) (he : P.underlying e = some (.int .u8)) (hd : P.underlying dst = some .string) {W : World} {base g n cap : Nat} {l : List UInt8}
    (hown : W.ownsRow base e 1 (.slice (some ⟨g, 0, Option.none⟩) n cap) n (ub l)) : (convert src dst (.slice (some ⟨g, 0, Option.none⟩) n cap)).run P W = .ok (.string (bs l)) W := by
  have hl : l.length = n := by have := hown.1; rw [ub_len] at this; omega
  rw [← strOfNums_ub]
  exact run_convert_bytes_arg (P := P) W src e hs he g 0 n cap (l.map fun c => (c.toNat : Int)) (by rw [List.length_map]; exact hl) (fun i hi => by
    rw [Nat.zero_add, hown.cellAt i (by omega), ub_at (by omega)]
    congr 2
    rw [List.getD_eq_getElem?_getD, List.getElem?_map, List.getElem?_eq_getElem (by omega)]; rfl) dst hd
end
end Go.Proofs.Ytfbanjmooknafaa
