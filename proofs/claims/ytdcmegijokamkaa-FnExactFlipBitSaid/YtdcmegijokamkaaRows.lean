/-
  No cell of these rows narrows 'for every input' (looked for: loops, veiled, ifaces, maps, wideKeys, modest, calm, conditions, laid).
  DERIVED. THE GIVEN ROWS OF THIS SEAT. 12 by the template 'for every input the law returns true; each argument reads behind the call as it read before'; 0 by the template 'total and deterministic' (their statements: YtdcmegijokamkaaTotals.lean).
  GIVEN WITH THE SEED: the statements are not yours to turn. If you find one false, say at which input.
  Laid BY PROGRAM, IN A SANDBOX (cutbox-rows.mjs): the forced cells as the released guide's own fill.sh prints them over the translation 730dcc743b047f1b… (all of the seat's roots in one cut). By AI agents, Wed Nov 11 2026. No macro, syntax, notation, axiom, sorry.
-/
import Derived.Test.YtdcmegijokamkaaChecked
import GoSem.Claim
import GoSem.ClaimJoined
import GoSem.ClaimMapViews
import Derived.JoinedTies
import Derived.KernelRfl
namespace Go.Proofs.Ytdcmegijokamkaa
/- THE CELL 'sum', in the pinned program and in every row, IS THE sha256 OF THE DUMP (.gsa) THAT YtdcmegijokamkaaProg.lean LOADS. Nothing in Lean hashes anything: it is a label: what it is worth is what the hold of that sum in a sandbox is worth. -/
noncomputable def Try.pinned : Pinned := { name := "ytdcmegijokamkaa", sum := "730dcc743b047f1b3601437abd702275133cd6e310fbb9fdcd9de61845f704d8", checked := Try.checked }
namespace Rows
def none {H : Type} : Left H := { results := [], args := [] }

/-- 'laws.FnExactGrayOf': WHATEVER THE INPUT: true; the input reads as it did. -/
def fnExactGrayOfSpec : ChangeSpec := { name := "fnExactGrayOf", fn := fun _ => fun
  | [d] => { results := [.lit (.bool true)], args := [d] }
  | _ => none }
def fnExactGrayOfRow : OpenClaim := { program := "ytdcmegijokamkaa", sum := "730dcc743b047f1b3601437abd702275133cd6e310fbb9fdcd9de61845f704d8", func := "loop.example/g00875/laws.FnExactGrayOf", spec := "fnExactGrayOf", apart := false }
def FnExactGrayOfSaid : Prop := fnExactGrayOfRow.holds Try.pinned (OpenSpec.ofChange fnExactGrayOfSpec)

/-- ITS FALSE NEIGHBOUR: 'it returns false'. Refute it at one input. -/
def fnExactGrayOfWrong : ChangeSpec := { name := "fnExactGrayOf", fn := fun _ => fun
  | [d] => { results := [.lit (.bool false)], args := [d] }
  | _ => none }
def FnExactGrayOfWrongFalsely : Prop := fnExactGrayOfRow.holds Try.pinned (OpenSpec.ofChange fnExactGrayOfWrong)

/-- 'laws.FnExactFromGray': WHATEVER THE INPUT: true; the input reads as it did. -/
def fnExactFromGraySpec : ChangeSpec := { name := "fnExactFromGray", fn := fun _ => fun
  | [d] => { results := [.lit (.bool true)], args := [d] }
  | _ => none }
def fnExactFromGrayRow : OpenClaim := { program := "ytdcmegijokamkaa", sum := "730dcc743b047f1b3601437abd702275133cd6e310fbb9fdcd9de61845f704d8", func := "loop.example/g00875/laws.FnExactFromGray", spec := "fnExactFromGray", apart := false }
def FnExactFromGraySaid : Prop := fnExactFromGrayRow.holds Try.pinned (OpenSpec.ofChange fnExactFromGraySpec)

/-- ITS FALSE NEIGHBOUR: 'it returns false'. Refute it at one input. -/
def fnExactFromGrayWrong : ChangeSpec := { name := "fnExactFromGray", fn := fun _ => fun
  | [d] => { results := [.lit (.bool false)], args := [d] }
  | _ => none }
def FnExactFromGrayWrongFalsely : Prop := fnExactFromGrayRow.holds Try.pinned (OpenSpec.ofChange fnExactFromGrayWrong)

/-- 'laws.FnExactEncodeHeight': WHATEVER THE INPUT: true; the input reads as it did. -/
def fnExactEncodeHeightSpec : ChangeSpec := { name := "fnExactEncodeHeight", fn := fun _ => fun
  | [d1, d2] => { results := [.lit (.bool true)], args := [d1, d2] }
  | _ => none }
def fnExactEncodeHeightRow : OpenClaim := { program := "ytdcmegijokamkaa", sum := "730dcc743b047f1b3601437abd702275133cd6e310fbb9fdcd9de61845f704d8", func := "loop.example/g00875/laws.FnExactEncodeHeight", spec := "fnExactEncodeHeight", apart := false }
def FnExactEncodeHeightSaid : Prop := fnExactEncodeHeightRow.holds Try.pinned (OpenSpec.ofChange fnExactEncodeHeightSpec)

/-- ITS FALSE NEIGHBOUR: 'it returns false'. Refute it at one input. -/
def fnExactEncodeHeightWrong : ChangeSpec := { name := "fnExactEncodeHeight", fn := fun _ => fun
  | [d1, d2] => { results := [.lit (.bool false)], args := [d1, d2] }
  | _ => none }
def FnExactEncodeHeightWrongFalsely : Prop := fnExactEncodeHeightRow.holds Try.pinned (OpenSpec.ofChange fnExactEncodeHeightWrong)

/-- 'laws.FnExactDecodeHeight': WHATEVER THE INPUT: true; the input reads as it did. -/
def fnExactDecodeHeightSpec : ChangeSpec := { name := "fnExactDecodeHeight", fn := fun _ => fun
  | [d] => { results := [.lit (.bool true)], args := [d] }
  | _ => none }
def fnExactDecodeHeightRow : OpenClaim := { program := "ytdcmegijokamkaa", sum := "730dcc743b047f1b3601437abd702275133cd6e310fbb9fdcd9de61845f704d8", func := "loop.example/g00875/laws.FnExactDecodeHeight", spec := "fnExactDecodeHeight", apart := false }
def FnExactDecodeHeightSaid : Prop := fnExactDecodeHeightRow.holds Try.pinned (OpenSpec.ofChange fnExactDecodeHeightSpec)

/-- ITS FALSE NEIGHBOUR: 'it returns false'. Refute it at one input. -/
def fnExactDecodeHeightWrong : ChangeSpec := { name := "fnExactDecodeHeight", fn := fun _ => fun
  | [d] => { results := [.lit (.bool false)], args := [d] }
  | _ => none }
def FnExactDecodeHeightWrongFalsely : Prop := fnExactDecodeHeightRow.holds Try.pinned (OpenSpec.ofChange fnExactDecodeHeightWrong)

/-- 'laws.FnExactNearestHeight': WHATEVER THE INPUT: true; the input reads as it did. -/
def fnExactNearestHeightSpec : ChangeSpec := { name := "fnExactNearestHeight", fn := fun _ => fun
  | [d1, d2] => { results := [.lit (.bool true)], args := [d1, d2] }
  | _ => none }
def fnExactNearestHeightRow : OpenClaim := { program := "ytdcmegijokamkaa", sum := "730dcc743b047f1b3601437abd702275133cd6e310fbb9fdcd9de61845f704d8", func := "loop.example/g00875/laws.FnExactNearestHeight", spec := "fnExactNearestHeight", apart := false }
def FnExactNearestHeightSaid : Prop := fnExactNearestHeightRow.holds Try.pinned (OpenSpec.ofChange fnExactNearestHeightSpec)

/-- ITS FALSE NEIGHBOUR: 'it returns false'. Refute it at one input. -/
def fnExactNearestHeightWrong : ChangeSpec := { name := "fnExactNearestHeight", fn := fun _ => fun
  | [d1, d2] => { results := [.lit (.bool false)], args := [d1, d2] }
  | _ => none }
def FnExactNearestHeightWrongFalsely : Prop := fnExactNearestHeightRow.holds Try.pinned (OpenSpec.ofChange fnExactNearestHeightWrong)

/-- 'laws.FnExactClimbRate': WHATEVER THE INPUT: true; the input reads as it did. -/
def fnExactClimbRateSpec : ChangeSpec := { name := "fnExactClimbRate", fn := fun _ => fun
  | [d1, d2, d3, d4] => { results := [.lit (.bool true)], args := [d1, d2, d3, d4] }
  | _ => none }
def fnExactClimbRateRow : OpenClaim := { program := "ytdcmegijokamkaa", sum := "730dcc743b047f1b3601437abd702275133cd6e310fbb9fdcd9de61845f704d8", func := "loop.example/g00875/laws.FnExactClimbRate", spec := "fnExactClimbRate", apart := false }
def FnExactClimbRateSaid : Prop := fnExactClimbRateRow.holds Try.pinned (OpenSpec.ofChange fnExactClimbRateSpec)

/-- ITS FALSE NEIGHBOUR: 'it returns false'. Refute it at one input. -/
def fnExactClimbRateWrong : ChangeSpec := { name := "fnExactClimbRate", fn := fun _ => fun
  | [d1, d2, d3, d4] => { results := [.lit (.bool false)], args := [d1, d2, d3, d4] }
  | _ => none }
def FnExactClimbRateWrongFalsely : Prop := fnExactClimbRateRow.holds Try.pinned (OpenSpec.ofChange fnExactClimbRateWrong)

/-- 'laws.FnExactIsBits': WHATEVER THE INPUT: true; the input reads as it did. -/
def fnExactIsBitsSpec : ChangeSpec := { name := "fnExactIsBits", fn := fun _ => fun
  | [d] => { results := [.lit (.bool true)], args := [d] }
  | _ => none }
def fnExactIsBitsRow : OpenClaim := { program := "ytdcmegijokamkaa", sum := "730dcc743b047f1b3601437abd702275133cd6e310fbb9fdcd9de61845f704d8", func := "loop.example/g00875/laws.FnExactIsBits", spec := "fnExactIsBits", apart := false }
def FnExactIsBitsSaid : Prop := fnExactIsBitsRow.holds Try.pinned (OpenSpec.ofChange fnExactIsBitsSpec)

/-- ITS FALSE NEIGHBOUR: 'it returns false'. Refute it at one input. -/
def fnExactIsBitsWrong : ChangeSpec := { name := "fnExactIsBits", fn := fun _ => fun
  | [d] => { results := [.lit (.bool false)], args := [d] }
  | _ => none }
def FnExactIsBitsWrongFalsely : Prop := fnExactIsBitsRow.holds Try.pinned (OpenSpec.ofChange fnExactIsBitsWrong)

/-- 'laws.FnExactBitsOf': WHATEVER THE INPUT: true; the input reads as it did. -/
def fnExactBitsOfSpec : ChangeSpec := { name := "fnExactBitsOf", fn := fun _ => fun
  | [d1, d2] => { results := [.lit (.bool true)], args := [d1, d2] }
  | _ => none }
def fnExactBitsOfRow : OpenClaim := { program := "ytdcmegijokamkaa", sum := "730dcc743b047f1b3601437abd702275133cd6e310fbb9fdcd9de61845f704d8", func := "loop.example/g00875/laws.FnExactBitsOf", spec := "fnExactBitsOf", apart := false }
def FnExactBitsOfSaid : Prop := fnExactBitsOfRow.holds Try.pinned (OpenSpec.ofChange fnExactBitsOfSpec)

/-- ITS FALSE NEIGHBOUR: 'it returns false'. Refute it at one input. -/
def fnExactBitsOfWrong : ChangeSpec := { name := "fnExactBitsOf", fn := fun _ => fun
  | [d1, d2] => { results := [.lit (.bool false)], args := [d1, d2] }
  | _ => none }
def FnExactBitsOfWrongFalsely : Prop := fnExactBitsOfRow.holds Try.pinned (OpenSpec.ofChange fnExactBitsOfWrong)

/-- 'laws.FnExactNumberOf': WHATEVER THE INPUT: true; the input reads as it did. -/
def fnExactNumberOfSpec : ChangeSpec := { name := "fnExactNumberOf", fn := fun _ => fun
  | [d] => { results := [.lit (.bool true)], args := [d] }
  | _ => none }
def fnExactNumberOfRow : OpenClaim := { program := "ytdcmegijokamkaa", sum := "730dcc743b047f1b3601437abd702275133cd6e310fbb9fdcd9de61845f704d8", func := "loop.example/g00875/laws.FnExactNumberOf", spec := "fnExactNumberOf", apart := false }
def FnExactNumberOfSaid : Prop := fnExactNumberOfRow.holds Try.pinned (OpenSpec.ofChange fnExactNumberOfSpec)

/-- ITS FALSE NEIGHBOUR: 'it returns false'. Refute it at one input. -/
def fnExactNumberOfWrong : ChangeSpec := { name := "fnExactNumberOf", fn := fun _ => fun
  | [d] => { results := [.lit (.bool false)], args := [d] }
  | _ => none }
def FnExactNumberOfWrongFalsely : Prop := fnExactNumberOfRow.holds Try.pinned (OpenSpec.ofChange fnExactNumberOfWrong)

/-- 'laws.FnExactFlipBit': WHATEVER THE INPUT: true; the input reads as it did. -/
def fnExactFlipBitSpec : ChangeSpec := { name := "fnExactFlipBit", fn := fun _ => fun
  | [d1, d2] => { results := [.lit (.bool true)], args := [d1, d2] }
  | _ => none }
def fnExactFlipBitRow : OpenClaim := { program := "ytdcmegijokamkaa", sum := "730dcc743b047f1b3601437abd702275133cd6e310fbb9fdcd9de61845f704d8", func := "loop.example/g00875/laws.FnExactFlipBit", spec := "fnExactFlipBit", apart := false }
def FnExactFlipBitSaid : Prop := fnExactFlipBitRow.holds Try.pinned (OpenSpec.ofChange fnExactFlipBitSpec)

/-- ITS FALSE NEIGHBOUR: 'it returns false'. Refute it at one input. -/
def fnExactFlipBitWrong : ChangeSpec := { name := "fnExactFlipBit", fn := fun _ => fun
  | [d1, d2] => { results := [.lit (.bool false)], args := [d1, d2] }
  | _ => none }
def FnExactFlipBitWrongFalsely : Prop := fnExactFlipBitRow.holds Try.pinned (OpenSpec.ofChange fnExactFlipBitWrong)

/-- 'laws.FnExactFieldOf': WHATEVER THE INPUT: true; the input reads as it did. -/
def fnExactFieldOfSpec : ChangeSpec := { name := "fnExactFieldOf", fn := fun _ => fun
  | [d1, d2, d3] => { results := [.lit (.bool true)], args := [d1, d2, d3] }
  | _ => none }
def fnExactFieldOfRow : OpenClaim := { program := "ytdcmegijokamkaa", sum := "730dcc743b047f1b3601437abd702275133cd6e310fbb9fdcd9de61845f704d8", func := "loop.example/g00875/laws.FnExactFieldOf", spec := "fnExactFieldOf", apart := false }
def FnExactFieldOfSaid : Prop := fnExactFieldOfRow.holds Try.pinned (OpenSpec.ofChange fnExactFieldOfSpec)

/-- ITS FALSE NEIGHBOUR: 'it returns false'. Refute it at one input. -/
def fnExactFieldOfWrong : ChangeSpec := { name := "fnExactFieldOf", fn := fun _ => fun
  | [d1, d2, d3] => { results := [.lit (.bool false)], args := [d1, d2, d3] }
  | _ => none }
def FnExactFieldOfWrongFalsely : Prop := fnExactFieldOfRow.holds Try.pinned (OpenSpec.ofChange fnExactFieldOfWrong)

/-- 'laws.FnExactCountOnes': WHATEVER THE INPUT: true; the input reads as it did. -/
def fnExactCountOnesSpec : ChangeSpec := { name := "fnExactCountOnes", fn := fun _ => fun
  | [d] => { results := [.lit (.bool true)], args := [d] }
  | _ => none }
def fnExactCountOnesRow : OpenClaim := { program := "ytdcmegijokamkaa", sum := "730dcc743b047f1b3601437abd702275133cd6e310fbb9fdcd9de61845f704d8", func := "loop.example/g00875/laws.FnExactCountOnes", spec := "fnExactCountOnes", apart := false }
def FnExactCountOnesSaid : Prop := fnExactCountOnesRow.holds Try.pinned (OpenSpec.ofChange fnExactCountOnesSpec)

/-- ITS FALSE NEIGHBOUR: 'it returns false'. Refute it at one input. -/
def fnExactCountOnesWrong : ChangeSpec := { name := "fnExactCountOnes", fn := fun _ => fun
  | [d] => { results := [.lit (.bool false)], args := [d] }
  | _ => none }
def FnExactCountOnesWrongFalsely : Prop := fnExactCountOnesRow.holds Try.pinned (OpenSpec.ofChange fnExactCountOnesWrong)

/- THE SECOND FORM. 'bulk': how many values and letters a reading holds, each counted each time it is reached (what is shared counts as often as it is met; a slice's spare places count too). A statement '..UptoSaid' is the law's where the arguments, and the package variables that the reading takes, are together of bulk at most 1048576: NARROWER than '..Said'. Prove '..Said' where nothing that the law and all that it calls make is longer than what came in: it says more and counts as full. Else prove '..UptoSaid'. A law counts once. -/
mutual
def uptoBulk {H : Type} : DataW H → Nat
  | .lit (.string bytes) => bytes.length + 1
  | .lit _ => 1
  | .nil => 1
  | .ptr d => uptoBulk d + 1
  | .slice elems spare => uptoBulkAll elems + uptoBulkAll spare + 1
  | .agg parts => uptoBulkAll parts + 1
  | .iface _ d => uptoBulk d + 1
  | .map entries => uptoBulkEntries entries + 1
  | .held _ => 1
def uptoBulkAll {H : Type} : List (DataW H) → Nat
  | [] => 0
  | d :: r => uptoBulk d + uptoBulkAll r
def uptoBulkEntries {H : Type} : List (Lit × DataW H) → Nat
  | [] => 0
  | x :: r => uptoBulkEntry x + uptoBulkEntries r
def uptoBulkEntry {H : Type} : Lit × DataW H → Nat
  | (.string bytes, d) => bytes.length + uptoBulk d + 1
  | (_, d) => uptoBulk d + 1
 end
def uptoSmall : (H : Type) → List (DataW H) → Bool := fun _ ds => decide (uptoBulkAll ds ≤ 1048576)
def OpenSpec.upto (s : _root_.Go.ChangeSpec) : _root_.Go.OpenSpec := { _root_.Go.OpenSpec.ofChange s with cond := some uptoSmall }

/-- 'laws.FnExactGrayOf', WHERE WHAT IT READS IS OF BULK AT MOST 1048576: true; the input reads as it did. -/
def fnExactGrayOfUptoRow : OpenClaim := { program := "ytdcmegijokamkaa", sum := "730dcc743b047f1b3601437abd702275133cd6e310fbb9fdcd9de61845f704d8", func := "loop.example/g00875/laws.FnExactGrayOf", spec := "fnExactGrayOf", apart := false, narrowed := true }
def FnExactGrayOfUptoSaid : Prop := fnExactGrayOfUptoRow.holds Try.pinned (OpenSpec.upto fnExactGrayOfSpec)

/-- 'laws.FnExactFromGray', WHERE WHAT IT READS IS OF BULK AT MOST 1048576: true; the input reads as it did. -/
def fnExactFromGrayUptoRow : OpenClaim := { program := "ytdcmegijokamkaa", sum := "730dcc743b047f1b3601437abd702275133cd6e310fbb9fdcd9de61845f704d8", func := "loop.example/g00875/laws.FnExactFromGray", spec := "fnExactFromGray", apart := false, narrowed := true }
def FnExactFromGrayUptoSaid : Prop := fnExactFromGrayUptoRow.holds Try.pinned (OpenSpec.upto fnExactFromGraySpec)

/-- 'laws.FnExactEncodeHeight', WHERE WHAT IT READS IS OF BULK AT MOST 1048576: true; the input reads as it did. -/
def fnExactEncodeHeightUptoRow : OpenClaim := { program := "ytdcmegijokamkaa", sum := "730dcc743b047f1b3601437abd702275133cd6e310fbb9fdcd9de61845f704d8", func := "loop.example/g00875/laws.FnExactEncodeHeight", spec := "fnExactEncodeHeight", apart := false, narrowed := true }
def FnExactEncodeHeightUptoSaid : Prop := fnExactEncodeHeightUptoRow.holds Try.pinned (OpenSpec.upto fnExactEncodeHeightSpec)

/-- 'laws.FnExactDecodeHeight', WHERE WHAT IT READS IS OF BULK AT MOST 1048576: true; the input reads as it did. -/
def fnExactDecodeHeightUptoRow : OpenClaim := { program := "ytdcmegijokamkaa", sum := "730dcc743b047f1b3601437abd702275133cd6e310fbb9fdcd9de61845f704d8", func := "loop.example/g00875/laws.FnExactDecodeHeight", spec := "fnExactDecodeHeight", apart := false, narrowed := true }
def FnExactDecodeHeightUptoSaid : Prop := fnExactDecodeHeightUptoRow.holds Try.pinned (OpenSpec.upto fnExactDecodeHeightSpec)

/-- 'laws.FnExactNearestHeight', WHERE WHAT IT READS IS OF BULK AT MOST 1048576: true; the input reads as it did. -/
def fnExactNearestHeightUptoRow : OpenClaim := { program := "ytdcmegijokamkaa", sum := "730dcc743b047f1b3601437abd702275133cd6e310fbb9fdcd9de61845f704d8", func := "loop.example/g00875/laws.FnExactNearestHeight", spec := "fnExactNearestHeight", apart := false, narrowed := true }
def FnExactNearestHeightUptoSaid : Prop := fnExactNearestHeightUptoRow.holds Try.pinned (OpenSpec.upto fnExactNearestHeightSpec)

/-- 'laws.FnExactClimbRate', WHERE WHAT IT READS IS OF BULK AT MOST 1048576: true; the input reads as it did. -/
def fnExactClimbRateUptoRow : OpenClaim := { program := "ytdcmegijokamkaa", sum := "730dcc743b047f1b3601437abd702275133cd6e310fbb9fdcd9de61845f704d8", func := "loop.example/g00875/laws.FnExactClimbRate", spec := "fnExactClimbRate", apart := false, narrowed := true }
def FnExactClimbRateUptoSaid : Prop := fnExactClimbRateUptoRow.holds Try.pinned (OpenSpec.upto fnExactClimbRateSpec)

/-- 'laws.FnExactIsBits', WHERE WHAT IT READS IS OF BULK AT MOST 1048576: true; the input reads as it did. -/
def fnExactIsBitsUptoRow : OpenClaim := { program := "ytdcmegijokamkaa", sum := "730dcc743b047f1b3601437abd702275133cd6e310fbb9fdcd9de61845f704d8", func := "loop.example/g00875/laws.FnExactIsBits", spec := "fnExactIsBits", apart := false, narrowed := true }
def FnExactIsBitsUptoSaid : Prop := fnExactIsBitsUptoRow.holds Try.pinned (OpenSpec.upto fnExactIsBitsSpec)

/-- 'laws.FnExactBitsOf', WHERE WHAT IT READS IS OF BULK AT MOST 1048576: true; the input reads as it did. -/
def fnExactBitsOfUptoRow : OpenClaim := { program := "ytdcmegijokamkaa", sum := "730dcc743b047f1b3601437abd702275133cd6e310fbb9fdcd9de61845f704d8", func := "loop.example/g00875/laws.FnExactBitsOf", spec := "fnExactBitsOf", apart := false, narrowed := true }
def FnExactBitsOfUptoSaid : Prop := fnExactBitsOfUptoRow.holds Try.pinned (OpenSpec.upto fnExactBitsOfSpec)

/-- 'laws.FnExactNumberOf', WHERE WHAT IT READS IS OF BULK AT MOST 1048576: true; the input reads as it did. -/
def fnExactNumberOfUptoRow : OpenClaim := { program := "ytdcmegijokamkaa", sum := "730dcc743b047f1b3601437abd702275133cd6e310fbb9fdcd9de61845f704d8", func := "loop.example/g00875/laws.FnExactNumberOf", spec := "fnExactNumberOf", apart := false, narrowed := true }
def FnExactNumberOfUptoSaid : Prop := fnExactNumberOfUptoRow.holds Try.pinned (OpenSpec.upto fnExactNumberOfSpec)

/-- 'laws.FnExactFlipBit', WHERE WHAT IT READS IS OF BULK AT MOST 1048576: true; the input reads as it did. -/
def fnExactFlipBitUptoRow : OpenClaim := { program := "ytdcmegijokamkaa", sum := "730dcc743b047f1b3601437abd702275133cd6e310fbb9fdcd9de61845f704d8", func := "loop.example/g00875/laws.FnExactFlipBit", spec := "fnExactFlipBit", apart := false, narrowed := true }
def FnExactFlipBitUptoSaid : Prop := fnExactFlipBitUptoRow.holds Try.pinned (OpenSpec.upto fnExactFlipBitSpec)

/-- 'laws.FnExactFieldOf', WHERE WHAT IT READS IS OF BULK AT MOST 1048576: true; the input reads as it did. -/
def fnExactFieldOfUptoRow : OpenClaim := { program := "ytdcmegijokamkaa", sum := "730dcc743b047f1b3601437abd702275133cd6e310fbb9fdcd9de61845f704d8", func := "loop.example/g00875/laws.FnExactFieldOf", spec := "fnExactFieldOf", apart := false, narrowed := true }
def FnExactFieldOfUptoSaid : Prop := fnExactFieldOfUptoRow.holds Try.pinned (OpenSpec.upto fnExactFieldOfSpec)

/-- 'laws.FnExactCountOnes', WHERE WHAT IT READS IS OF BULK AT MOST 1048576: true; the input reads as it did. -/
def fnExactCountOnesUptoRow : OpenClaim := { program := "ytdcmegijokamkaa", sum := "730dcc743b047f1b3601437abd702275133cd6e310fbb9fdcd9de61845f704d8", func := "loop.example/g00875/laws.FnExactCountOnes", spec := "fnExactCountOnes", apart := false, narrowed := true }
def FnExactCountOnesUptoSaid : Prop := fnExactCountOnesUptoRow.holds Try.pinned (OpenSpec.upto fnExactCountOnesSpec)

end Rows
end Go.Proofs.Ytdcmegijokamkaa
