/-
  Contracts of the exported functions on bit strings.
-/
import Derived.Test.YtiofbmgfkjjioaaB2
namespace Go.Proofs.Ytiofbmgfkjjioaa
open Go.RowKit
set_option linter.unusedSimpArgs false
set_option linter.unusedVariables false
set_option maxRecDepth 100000

/-- results of the functions on bit strings -/
def boOk (n wd : Int) : Bool := P.inB wd 0 30 && P.inB n 0 (2 ^ wd.toNat - 1)
def boL (n wd : Int) : List UInt8 := if boOk n wd = true then P.bitsL n.toNat wd.toNat else []
def noOk (l : List UInt8) : Bool := P.isBits l && decide (l.length ≤ 30)
def noI (l : List UInt8) : Int := if noOk l = true then (P.numL l : Int) else 0
def fbOk (l : List UInt8) (i : Int) : Bool := P.isBits l && P.inB i 0 ((l.length : Int) - 1)
def fbL (l : List UInt8) (i : Int) : List UInt8 := if fbOk l i = true then P.flipL l i.toNat else []
def foOk (l : List UInt8) (f wd : Int) : Bool := P.isBits l && P.inB wd 1 30 && P.inB f 0 ((l.length : Int) - wd)
def foI (l : List UInt8) (f wd : Int) : Int := if foOk l f wd = true then (P.numL ((l.drop f.toNat).take wd.toNat) : Int) else 0
def coI (l : List UInt8) : Int := if P.isBits l = true then (P.onesL l : Int) else 0
def xoOk (a b : List UInt8) : Bool := P.isBits a && P.isBits b && decide (a.length = b.length)
def xoL (a b : List UInt8) : List UInt8 := if xoOk a b = true then P.xorL a b else []

theorem two_le (d : Nat) (h : d ≤ 30) : (2 : Int) ^ d ≤ 1073741824 ∧ 1 ≤ (2 : Int) ^ d := by
  have h1 : (2 : Nat) ^ d ≤ 2 ^ 30 := Nat.pow_le_pow_right (by omega) h
  have h2 : 1 ≤ (2 : Nat) ^ d := Nat.one_le_two_pow
  have h3 : ((2 ^ d : Nat) : Int) = (2 : Int) ^ d := by push_cast; rfl
  omega

end Go.Proofs.Ytiofbmgfkjjioaa
