/-
  No cell of these rows narrows 'for every input' (looked for: loops, veiled, ifaces, maps, wideKeys, modest, calm, conditions, laid).
  DERIVED. THE GIVEN ROWS OF THIS SEAT. 12 by the template 'for every input the law returns true; each argument reads behind the call as it read before'; 0 by the template 'total and deterministic' (their statements: YtfbanjmooknafaaTotals.lean).
  GIVEN WITH THE SEED: the statements are not yours to turn. If you find one false, say at which input.
  Laid BY PROGRAM, IN A SANDBOX (cutbox-rows.mjs): the forced cells as the released guide's own fill.sh prints them over the translation b37d55dca7b5ee32… (all of the seat's roots in one cut). By AI agents, Wed Nov 11 2026. No macro, syntax, notation, axiom, sorry.
-/
import Derived.Test.YtfbanjmooknafaaChecked
import GoSem.Claim
import GoSem.ClaimJoined
import GoSem.ClaimMapViews
import Derived.JoinedTies
import Derived.KernelRfl
namespace Go.Proofs.Ytfbanjmooknafaa
/- THE CELL 'sum', in the pinned program and in every row, IS THE sha256 OF THE DUMP (.gsa) THAT YtfbanjmooknafaaProg.lean LOADS. Nothing in Lean hashes anything: it is a label: what it is worth is what the hold of that sum in a sandbox is worth. -/
noncomputable def Try.pinned : Pinned := { name := "ytfbanjmooknafaa", sum := "b37d55dca7b5ee321d3857f9d4ff4448f2a25ec782180ea537291e3c22cecbab", checked := Try.checked }
namespace Rows
def none {H : Type} : Left H := { results := [], args := [] }

/-- 'laws.FnSyndromes': WHATEVER THE INPUT: true; the input reads as it did. -/
def fnSyndromesSpec : ChangeSpec := { name := "fnSyndromes", fn := fun _ => fun
  | [d] => { results := [.lit (.bool true)], args := [d] }
  | _ => none }
def fnSyndromesRow : OpenClaim := { program := "ytfbanjmooknafaa", sum := "b37d55dca7b5ee321d3857f9d4ff4448f2a25ec782180ea537291e3c22cecbab", func := "loop.example/g00875/laws.FnSyndromes", spec := "fnSyndromes", apart := false }
def FnSyndromesSaid : Prop := fnSyndromesRow.holds Try.pinned (OpenSpec.ofChange fnSyndromesSpec)

/-- ITS FALSE NEIGHBOUR: 'it returns false'. Refute it at one input. -/
def fnSyndromesWrong : ChangeSpec := { name := "fnSyndromes", fn := fun _ => fun
  | [d] => { results := [.lit (.bool false)], args := [d] }
  | _ => none }
def FnSyndromesWrongFalsely : Prop := fnSyndromesRow.holds Try.pinned (OpenSpec.ofChange fnSyndromesWrong)

/-- 'laws.FnSplitJoin': WHATEVER THE INPUT: true; the input reads as it did. -/
def fnSplitJoinSpec : ChangeSpec := { name := "fnSplitJoin", fn := fun _ => fun
  | [d] => { results := [.lit (.bool true)], args := [d] }
  | _ => none }
def fnSplitJoinRow : OpenClaim := { program := "ytfbanjmooknafaa", sum := "b37d55dca7b5ee321d3857f9d4ff4448f2a25ec782180ea537291e3c22cecbab", func := "loop.example/g00875/laws.FnSplitJoin", spec := "fnSplitJoin", apart := false }
def FnSplitJoinSaid : Prop := fnSplitJoinRow.holds Try.pinned (OpenSpec.ofChange fnSplitJoinSpec)

/-- ITS FALSE NEIGHBOUR: 'it returns false'. Refute it at one input. -/
def fnSplitJoinWrong : ChangeSpec := { name := "fnSplitJoin", fn := fun _ => fun
  | [d] => { results := [.lit (.bool false)], args := [d] }
  | _ => none }
def FnSplitJoinWrongFalsely : Prop := fnSplitJoinRow.holds Try.pinned (OpenSpec.ofChange fnSplitJoinWrong)

/-- 'laws.FnFlips': WHATEVER THE INPUT: true; the input reads as it did. -/
def fnFlipsSpec : ChangeSpec := { name := "fnFlips", fn := fun _ => fun
  | [d] => { results := [.lit (.bool true)], args := [d] }
  | _ => none }
def fnFlipsRow : OpenClaim := { program := "ytfbanjmooknafaa", sum := "b37d55dca7b5ee321d3857f9d4ff4448f2a25ec782180ea537291e3c22cecbab", func := "loop.example/g00875/laws.FnFlips", spec := "fnFlips", apart := false }
def FnFlipsSaid : Prop := fnFlipsRow.holds Try.pinned (OpenSpec.ofChange fnFlipsSpec)

/-- ITS FALSE NEIGHBOUR: 'it returns false'. Refute it at one input. -/
def fnFlipsWrong : ChangeSpec := { name := "fnFlips", fn := fun _ => fun
  | [d] => { results := [.lit (.bool false)], args := [d] }
  | _ => none }
def FnFlipsWrongFalsely : Prop := fnFlipsRow.holds Try.pinned (OpenSpec.ofChange fnFlipsWrong)

/-- 'laws.FnStrings': WHATEVER THE INPUT: true; the input reads as it did. -/
def fnStringsSpec : ChangeSpec := { name := "fnStrings", fn := fun _ => fun
  | [d] => { results := [.lit (.bool true)], args := [d] }
  | _ => none }
def fnStringsRow : OpenClaim := { program := "ytfbanjmooknafaa", sum := "b37d55dca7b5ee321d3857f9d4ff4448f2a25ec782180ea537291e3c22cecbab", func := "loop.example/g00875/laws.FnStrings", spec := "fnStrings", recurses := true, apart := false }
def FnStringsSaid : Prop := fnStringsRow.holds Try.pinned (OpenSpec.ofChange fnStringsSpec)

/-- ITS FALSE NEIGHBOUR: 'it returns false'. Refute it at one input. -/
def fnStringsWrong : ChangeSpec := { name := "fnStrings", fn := fun _ => fun
  | [d] => { results := [.lit (.bool false)], args := [d] }
  | _ => none }
def FnStringsWrongFalsely : Prop := fnStringsRow.holds Try.pinned (OpenSpec.ofChange fnStringsWrong)

/-- 'laws.FnBits': WHATEVER THE INPUT: true; the input reads as it did. -/
def fnBitsSpec : ChangeSpec := { name := "fnBits", fn := fun _ => fun
  | [d] => { results := [.lit (.bool true)], args := [d] }
  | _ => none }
def fnBitsRow : OpenClaim := { program := "ytfbanjmooknafaa", sum := "b37d55dca7b5ee321d3857f9d4ff4448f2a25ec782180ea537291e3c22cecbab", func := "loop.example/g00875/laws.FnBits", spec := "fnBits", apart := false }
def FnBitsSaid : Prop := fnBitsRow.holds Try.pinned (OpenSpec.ofChange fnBitsSpec)

/-- ITS FALSE NEIGHBOUR: 'it returns false'. Refute it at one input. -/
def fnBitsWrong : ChangeSpec := { name := "fnBits", fn := fun _ => fun
  | [d] => { results := [.lit (.bool false)], args := [d] }
  | _ => none }
def FnBitsWrongFalsely : Prop := fnBitsRow.holds Try.pinned (OpenSpec.ofChange fnBitsWrong)

/-- 'laws.FnParity': WHATEVER THE INPUT: true; the input reads as it did. -/
def fnParitySpec : ChangeSpec := { name := "fnParity", fn := fun _ => fun
  | [d] => { results := [.lit (.bool true)], args := [d] }
  | _ => none }
def fnParityRow : OpenClaim := { program := "ytfbanjmooknafaa", sum := "b37d55dca7b5ee321d3857f9d4ff4448f2a25ec782180ea537291e3c22cecbab", func := "loop.example/g00875/laws.FnParity", spec := "fnParity", apart := false }
def FnParitySaid : Prop := fnParityRow.holds Try.pinned (OpenSpec.ofChange fnParitySpec)

/-- ITS FALSE NEIGHBOUR: 'it returns false'. Refute it at one input. -/
def fnParityWrong : ChangeSpec := { name := "fnParity", fn := fun _ => fun
  | [d] => { results := [.lit (.bool false)], args := [d] }
  | _ => none }
def FnParityWrongFalsely : Prop := fnParityRow.holds Try.pinned (OpenSpec.ofChange fnParityWrong)

/-- 'laws.FnAddresses': WHATEVER THE INPUT: true; the input reads as it did. -/
def fnAddressesSpec : ChangeSpec := { name := "fnAddresses", fn := fun _ => fun
  | [d] => { results := [.lit (.bool true)], args := [d] }
  | _ => none }
def fnAddressesRow : OpenClaim := { program := "ytfbanjmooknafaa", sum := "b37d55dca7b5ee321d3857f9d4ff4448f2a25ec782180ea537291e3c22cecbab", func := "loop.example/g00875/laws.FnAddresses", spec := "fnAddresses", apart := false }
def FnAddressesSaid : Prop := fnAddressesRow.holds Try.pinned (OpenSpec.ofChange fnAddressesSpec)

/-- ITS FALSE NEIGHBOUR: 'it returns false'. Refute it at one input. -/
def fnAddressesWrong : ChangeSpec := { name := "fnAddresses", fn := fun _ => fun
  | [d] => { results := [.lit (.bool false)], args := [d] }
  | _ => none }
def FnAddressesWrongFalsely : Prop := fnAddressesRow.holds Try.pinned (OpenSpec.ofChange fnAddressesWrong)

/-- 'laws.FnFlightNames': WHATEVER THE INPUT: true; the input reads as it did. -/
def fnFlightNamesSpec : ChangeSpec := { name := "fnFlightNames", fn := fun _ => fun
  | [d] => { results := [.lit (.bool true)], args := [d] }
  | _ => none }
def fnFlightNamesRow : OpenClaim := { program := "ytfbanjmooknafaa", sum := "b37d55dca7b5ee321d3857f9d4ff4448f2a25ec782180ea537291e3c22cecbab", func := "loop.example/g00875/laws.FnFlightNames", spec := "fnFlightNames", apart := false }
def FnFlightNamesSaid : Prop := fnFlightNamesRow.holds Try.pinned (OpenSpec.ofChange fnFlightNamesSpec)

/-- ITS FALSE NEIGHBOUR: 'it returns false'. Refute it at one input. -/
def fnFlightNamesWrong : ChangeSpec := { name := "fnFlightNames", fn := fun _ => fun
  | [d] => { results := [.lit (.bool false)], args := [d] }
  | _ => none }
def FnFlightNamesWrongFalsely : Prop := fnFlightNamesRow.holds Try.pinned (OpenSpec.ofChange fnFlightNamesWrong)

/-- 'laws.FnNearestNames': WHATEVER THE INPUT: true; the input reads as it did. -/
def fnNearestNamesSpec : ChangeSpec := { name := "fnNearestNames", fn := fun _ => fun
  | [d] => { results := [.lit (.bool true)], args := [d] }
  | _ => none }
def fnNearestNamesRow : OpenClaim := { program := "ytfbanjmooknafaa", sum := "b37d55dca7b5ee321d3857f9d4ff4448f2a25ec782180ea537291e3c22cecbab", func := "loop.example/g00875/laws.FnNearestNames", spec := "fnNearestNames", recurses := true, apart := false }
def FnNearestNamesSaid : Prop := fnNearestNamesRow.holds Try.pinned (OpenSpec.ofChange fnNearestNamesSpec)

/-- ITS FALSE NEIGHBOUR: 'it returns false'. Refute it at one input. -/
def fnNearestNamesWrong : ChangeSpec := { name := "fnNearestNames", fn := fun _ => fun
  | [d] => { results := [.lit (.bool false)], args := [d] }
  | _ => none }
def FnNearestNamesWrongFalsely : Prop := fnNearestNamesRow.holds Try.pinned (OpenSpec.ofChange fnNearestNamesWrong)

/-- 'laws.FnFrames': WHATEVER THE INPUT: true; the input reads as it did. -/
def fnFramesSpec : ChangeSpec := { name := "fnFrames", fn := fun _ => fun
  | [d] => { results := [.lit (.bool true)], args := [d] }
  | _ => none }
def fnFramesRow : OpenClaim := { program := "ytfbanjmooknafaa", sum := "b37d55dca7b5ee321d3857f9d4ff4448f2a25ec782180ea537291e3c22cecbab", func := "loop.example/g00875/laws.FnFrames", spec := "fnFrames", apart := false }
def FnFramesSaid : Prop := fnFramesRow.holds Try.pinned (OpenSpec.ofChange fnFramesSpec)

/-- ITS FALSE NEIGHBOUR: 'it returns false'. Refute it at one input. -/
def fnFramesWrong : ChangeSpec := { name := "fnFrames", fn := fun _ => fun
  | [d] => { results := [.lit (.bool false)], args := [d] }
  | _ => none }
def FnFramesWrongFalsely : Prop := fnFramesRow.holds Try.pinned (OpenSpec.ofChange fnFramesWrong)

/-- 'laws.FnExactFramesOf': WHATEVER THE INPUT: true; the input reads as it did. -/
def fnExactFramesOfSpec : ChangeSpec := { name := "fnExactFramesOf", fn := fun _ => fun
  | [d1, d2] => { results := [.lit (.bool true)], args := [d1, d2] }
  | _ => none }
def fnExactFramesOfRow : OpenClaim := { program := "ytfbanjmooknafaa", sum := "b37d55dca7b5ee321d3857f9d4ff4448f2a25ec782180ea537291e3c22cecbab", func := "loop.example/g00875/laws.FnExactFramesOf", spec := "fnExactFramesOf", apart := false }
def FnExactFramesOfSaid : Prop := fnExactFramesOfRow.holds Try.pinned (OpenSpec.ofChange fnExactFramesOfSpec)

/-- ITS FALSE NEIGHBOUR: 'it returns false'. Refute it at one input. -/
def fnExactFramesOfWrong : ChangeSpec := { name := "fnExactFramesOf", fn := fun _ => fun
  | [d1, d2] => { results := [.lit (.bool false)], args := [d1, d2] }
  | _ => none }
def FnExactFramesOfWrongFalsely : Prop := fnExactFramesOfRow.holds Try.pinned (OpenSpec.ofChange fnExactFramesOfWrong)

/-- 'laws.FnExactAddressesOf': WHATEVER THE INPUT: true; the input reads as it did. -/
def fnExactAddressesOfSpec : ChangeSpec := { name := "fnExactAddressesOf", fn := fun _ => fun
  | [d] => { results := [.lit (.bool true)], args := [d] }
  | _ => none }
def fnExactAddressesOfRow : OpenClaim := { program := "ytfbanjmooknafaa", sum := "b37d55dca7b5ee321d3857f9d4ff4448f2a25ec782180ea537291e3c22cecbab", func := "loop.example/g00875/laws.FnExactAddressesOf", spec := "fnExactAddressesOf", apart := false }
def FnExactAddressesOfSaid : Prop := fnExactAddressesOfRow.holds Try.pinned (OpenSpec.ofChange fnExactAddressesOfSpec)

/-- ITS FALSE NEIGHBOUR: 'it returns false'. Refute it at one input. -/
def fnExactAddressesOfWrong : ChangeSpec := { name := "fnExactAddressesOf", fn := fun _ => fun
  | [d] => { results := [.lit (.bool false)], args := [d] }
  | _ => none }
def FnExactAddressesOfWrongFalsely : Prop := fnExactAddressesOfRow.holds Try.pinned (OpenSpec.ofChange fnExactAddressesOfWrong)

/- THE SECOND FORM. 'bulk': how many values and letters a reading holds, each counted each time it is reached (what is shared counts as often as it is met; a slice's spare places count too). A statement '..UptoSaid' is the law's where the arguments, and the package variables that the reading takes, are together of bulk at most 1048576: NARROWER than '..Said'. Prove '..Said' where nothing that the law and all that it calls make is longer than what came in: it says more and counts as full. Else prove '..UptoSaid'. A law counts once. -/
mutual
def uptoBulk {H : Type} : DataW H → Nat
  | .lit (.string bytes) => bytes.length + 1
  | .lit _ => 1
  | .nil => 1
  | .ptr d => uptoBulk d + 1
  | .slice elems spare => uptoBulkAll elems + uptoBulkAll spare + 1
  | .agg parts => uptoBulkAll parts + 1
  | .iface _ d => uptoBulk d + 1
  | .map entries => uptoBulkEntries entries + 1
  | .held _ => 1
def uptoBulkAll {H : Type} : List (DataW H) → Nat
  | [] => 0
  | d :: r => uptoBulk d + uptoBulkAll r
def uptoBulkEntries {H : Type} : List (Lit × DataW H) → Nat
  | [] => 0
  | x :: r => uptoBulkEntry x + uptoBulkEntries r
def uptoBulkEntry {H : Type} : Lit × DataW H → Nat
  | (.string bytes, d) => bytes.length + uptoBulk d + 1
  | (_, d) => uptoBulk d + 1
 end
def uptoSmall : (H : Type) → List (DataW H) → Bool := fun _ ds => decide (uptoBulkAll ds ≤ 1048576)
def OpenSpec.upto (s : _root_.Go.ChangeSpec) : _root_.Go.OpenSpec := { _root_.Go.OpenSpec.ofChange s with cond := some uptoSmall }

/-- 'laws.FnSyndromes', WHERE WHAT IT READS IS OF BULK AT MOST 1048576: true; the input reads as it did. -/
def fnSyndromesUptoRow : OpenClaim := { program := "ytfbanjmooknafaa", sum := "b37d55dca7b5ee321d3857f9d4ff4448f2a25ec782180ea537291e3c22cecbab", func := "loop.example/g00875/laws.FnSyndromes", spec := "fnSyndromes", apart := false, narrowed := true }
def FnSyndromesUptoSaid : Prop := fnSyndromesUptoRow.holds Try.pinned (OpenSpec.upto fnSyndromesSpec)

/-- 'laws.FnSplitJoin', WHERE WHAT IT READS IS OF BULK AT MOST 1048576: true; the input reads as it did. -/
def fnSplitJoinUptoRow : OpenClaim := { program := "ytfbanjmooknafaa", sum := "b37d55dca7b5ee321d3857f9d4ff4448f2a25ec782180ea537291e3c22cecbab", func := "loop.example/g00875/laws.FnSplitJoin", spec := "fnSplitJoin", apart := false, narrowed := true }
def FnSplitJoinUptoSaid : Prop := fnSplitJoinUptoRow.holds Try.pinned (OpenSpec.upto fnSplitJoinSpec)

/-- 'laws.FnFlips', WHERE WHAT IT READS IS OF BULK AT MOST 1048576: true; the input reads as it did. -/
def fnFlipsUptoRow : OpenClaim := { program := "ytfbanjmooknafaa", sum := "b37d55dca7b5ee321d3857f9d4ff4448f2a25ec782180ea537291e3c22cecbab", func := "loop.example/g00875/laws.FnFlips", spec := "fnFlips", apart := false, narrowed := true }
def FnFlipsUptoSaid : Prop := fnFlipsUptoRow.holds Try.pinned (OpenSpec.upto fnFlipsSpec)

/-- 'laws.FnStrings', WHERE WHAT IT READS IS OF BULK AT MOST 1048576: true; the input reads as it did. -/
def fnStringsUptoRow : OpenClaim := { program := "ytfbanjmooknafaa", sum := "b37d55dca7b5ee321d3857f9d4ff4448f2a25ec782180ea537291e3c22cecbab", func := "loop.example/g00875/laws.FnStrings", spec := "fnStrings", recurses := true, apart := false, narrowed := true }
def FnStringsUptoSaid : Prop := fnStringsUptoRow.holds Try.pinned (OpenSpec.upto fnStringsSpec)

/-- 'laws.FnBits', WHERE WHAT IT READS IS OF BULK AT MOST 1048576: true; the input reads as it did. -/
def fnBitsUptoRow : OpenClaim := { program := "ytfbanjmooknafaa", sum := "b37d55dca7b5ee321d3857f9d4ff4448f2a25ec782180ea537291e3c22cecbab", func := "loop.example/g00875/laws.FnBits", spec := "fnBits", apart := false, narrowed := true }
def FnBitsUptoSaid : Prop := fnBitsUptoRow.holds Try.pinned (OpenSpec.upto fnBitsSpec)

/-- 'laws.FnParity', WHERE WHAT IT READS IS OF BULK AT MOST 1048576: true; the input reads as it did. -/
def fnParityUptoRow : OpenClaim := { program := "ytfbanjmooknafaa", sum := "b37d55dca7b5ee321d3857f9d4ff4448f2a25ec782180ea537291e3c22cecbab", func := "loop.example/g00875/laws.FnParity", spec := "fnParity", apart := false, narrowed := true }
def FnParityUptoSaid : Prop := fnParityUptoRow.holds Try.pinned (OpenSpec.upto fnParitySpec)

/-- 'laws.FnAddresses', WHERE WHAT IT READS IS OF BULK AT MOST 1048576: true; the input reads as it did. -/
def fnAddressesUptoRow : OpenClaim := { program := "ytfbanjmooknafaa", sum := "b37d55dca7b5ee321d3857f9d4ff4448f2a25ec782180ea537291e3c22cecbab", func := "loop.example/g00875/laws.FnAddresses", spec := "fnAddresses", apart := false, narrowed := true }
def FnAddressesUptoSaid : Prop := fnAddressesUptoRow.holds Try.pinned (OpenSpec.upto fnAddressesSpec)

/-- 'laws.FnFlightNames', WHERE WHAT IT READS IS OF BULK AT MOST 1048576: true; the input reads as it did. -/
def fnFlightNamesUptoRow : OpenClaim := { program := "ytfbanjmooknafaa", sum := "b37d55dca7b5ee321d3857f9d4ff4448f2a25ec782180ea537291e3c22cecbab", func := "loop.example/g00875/laws.FnFlightNames", spec := "fnFlightNames", apart := false, narrowed := true }
def FnFlightNamesUptoSaid : Prop := fnFlightNamesUptoRow.holds Try.pinned (OpenSpec.upto fnFlightNamesSpec)

/-- 'laws.FnNearestNames', WHERE WHAT IT READS IS OF BULK AT MOST 1048576: true; the input reads as it did. -/
def fnNearestNamesUptoRow : OpenClaim := { program := "ytfbanjmooknafaa", sum := "b37d55dca7b5ee321d3857f9d4ff4448f2a25ec782180ea537291e3c22cecbab", func := "loop.example/g00875/laws.FnNearestNames", spec := "fnNearestNames", recurses := true, apart := false, narrowed := true }
def FnNearestNamesUptoSaid : Prop := fnNearestNamesUptoRow.holds Try.pinned (OpenSpec.upto fnNearestNamesSpec)

/-- 'laws.FnFrames', WHERE WHAT IT READS IS OF BULK AT MOST 1048576: true; the input reads as it did. -/
def fnFramesUptoRow : OpenClaim := { program := "ytfbanjmooknafaa", sum := "b37d55dca7b5ee321d3857f9d4ff4448f2a25ec782180ea537291e3c22cecbab", func := "loop.example/g00875/laws.FnFrames", spec := "fnFrames", apart := false, narrowed := true }
def FnFramesUptoSaid : Prop := fnFramesUptoRow.holds Try.pinned (OpenSpec.upto fnFramesSpec)

/-- 'laws.FnExactFramesOf', WHERE WHAT IT READS IS OF BULK AT MOST 1048576: true; the input reads as it did. -/
def fnExactFramesOfUptoRow : OpenClaim := { program := "ytfbanjmooknafaa", sum := "b37d55dca7b5ee321d3857f9d4ff4448f2a25ec782180ea537291e3c22cecbab", func := "loop.example/g00875/laws.FnExactFramesOf", spec := "fnExactFramesOf", apart := false, narrowed := true }
def FnExactFramesOfUptoSaid : Prop := fnExactFramesOfUptoRow.holds Try.pinned (OpenSpec.upto fnExactFramesOfSpec)

/-- 'laws.FnExactAddressesOf', WHERE WHAT IT READS IS OF BULK AT MOST 1048576: true; the input reads as it did. -/
def fnExactAddressesOfUptoRow : OpenClaim := { program := "ytfbanjmooknafaa", sum := "b37d55dca7b5ee321d3857f9d4ff4448f2a25ec782180ea537291e3c22cecbab", func := "loop.example/g00875/laws.FnExactAddressesOf", spec := "fnExactAddressesOf", apart := false, narrowed := true }
def FnExactAddressesOfUptoSaid : Prop := fnExactAddressesOfUptoRow.holds Try.pinned (OpenSpec.upto fnExactAddressesOfSpec)

end Rows
end Go.Proofs.Ytfbanjmooknafaa
