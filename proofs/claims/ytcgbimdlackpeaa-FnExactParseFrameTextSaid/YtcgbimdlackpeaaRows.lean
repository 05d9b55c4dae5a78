/-
  No cell of these rows narrows 'for every input' (looked for: loops, veiled, ifaces, maps, wideKeys, modest, calm, conditions, laid).
  DERIVED. THE GIVEN ROWS OF THIS SEAT. 12 by the template 'for every input the law returns true; each argument reads behind the call as it read before'; 0 by the template 'total and deterministic' (their statements: YtcgbimdlackpeaaTotals.lean).
  GIVEN WITH THE SEED: the statements are not yours to turn. If you find one false, say at which input.
  Laid BY PROGRAM, IN A SANDBOX (cutbox-rows.mjs): the forced cells as the released guide's own fill.sh prints them over the translation 6758068cf8064397… (all of the seat's roots in one cut). By AI agents, Wed Nov 11 2026. No macro, syntax, notation, axiom, sorry.
-/
import Derived.Test.YtcgbimdlackpeaaChecked
import GoSem.Claim
import GoSem.ClaimJoined
import GoSem.ClaimMapViews
import Derived.JoinedTies
import Derived.KernelRfl
namespace Go.Proofs.Ytcgbimdlackpeaa
/- THE CELL 'sum', in the pinned program and in every row, IS THE sha256 OF THE DUMP (.gsa) THAT YtcgbimdlackpeaaProg.lean LOADS. Nothing in Lean hashes anything: it is a label: what it is worth is what the hold of that sum in a sandbox is worth. -/
noncomputable def Try.pinned : Pinned := { name := "ytcgbimdlackpeaa", sum := "6758068cf8064397575b49aeb6bf201ba297f05e85b1f9f26aef08ed31f40e03", checked := Try.checked }
namespace Rows
def none {H : Type} : Left H := { results := [], args := [] }

/-- 'laws.FnExactXorBits': WHATEVER THE INPUT: true; the input reads as it did. -/
def fnExactXorBitsSpec : ChangeSpec := { name := "fnExactXorBits", fn := fun _ => fun
  | [d1, d2] => { results := [.lit (.bool true)], args := [d1, d2] }
  | _ => none }
def fnExactXorBitsRow : OpenClaim := { program := "ytcgbimdlackpeaa", sum := "6758068cf8064397575b49aeb6bf201ba297f05e85b1f9f26aef08ed31f40e03", func := "loop.example/g00875/laws.FnExactXorBits", spec := "fnExactXorBits", apart := false }
def FnExactXorBitsSaid : Prop := fnExactXorBitsRow.holds Try.pinned (OpenSpec.ofChange fnExactXorBitsSpec)

/-- ITS FALSE NEIGHBOUR: 'it returns false'. Refute it at one input. -/
def fnExactXorBitsWrong : ChangeSpec := { name := "fnExactXorBits", fn := fun _ => fun
  | [d1, d2] => { results := [.lit (.bool false)], args := [d1, d2] }
  | _ => none }
def FnExactXorBitsWrongFalsely : Prop := fnExactXorBitsRow.holds Try.pinned (OpenSpec.ofChange fnExactXorBitsWrong)

/-- 'laws.FnExactBitsFromHex': WHATEVER THE INPUT: true; the input reads as it did. -/
def fnExactBitsFromHexSpec : ChangeSpec := { name := "fnExactBitsFromHex", fn := fun _ => fun
  | [d] => { results := [.lit (.bool true)], args := [d] }
  | _ => none }
def fnExactBitsFromHexRow : OpenClaim := { program := "ytcgbimdlackpeaa", sum := "6758068cf8064397575b49aeb6bf201ba297f05e85b1f9f26aef08ed31f40e03", func := "loop.example/g00875/laws.FnExactBitsFromHex", spec := "fnExactBitsFromHex", apart := false }
def FnExactBitsFromHexSaid : Prop := fnExactBitsFromHexRow.holds Try.pinned (OpenSpec.ofChange fnExactBitsFromHexSpec)

/-- ITS FALSE NEIGHBOUR: 'it returns false'. Refute it at one input. -/
def fnExactBitsFromHexWrong : ChangeSpec := { name := "fnExactBitsFromHex", fn := fun _ => fun
  | [d] => { results := [.lit (.bool false)], args := [d] }
  | _ => none }
def FnExactBitsFromHexWrongFalsely : Prop := fnExactBitsFromHexRow.holds Try.pinned (OpenSpec.ofChange fnExactBitsFromHexWrong)

/-- 'laws.FnExactHexOf': WHATEVER THE INPUT: true; the input reads as it did. -/
def fnExactHexOfSpec : ChangeSpec := { name := "fnExactHexOf", fn := fun _ => fun
  | [d] => { results := [.lit (.bool true)], args := [d] }
  | _ => none }
def fnExactHexOfRow : OpenClaim := { program := "ytcgbimdlackpeaa", sum := "6758068cf8064397575b49aeb6bf201ba297f05e85b1f9f26aef08ed31f40e03", func := "loop.example/g00875/laws.FnExactHexOf", spec := "fnExactHexOf", apart := false }
def FnExactHexOfSaid : Prop := fnExactHexOfRow.holds Try.pinned (OpenSpec.ofChange fnExactHexOfSpec)

/-- ITS FALSE NEIGHBOUR: 'it returns false'. Refute it at one input. -/
def fnExactHexOfWrong : ChangeSpec := { name := "fnExactHexOf", fn := fun _ => fun
  | [d] => { results := [.lit (.bool false)], args := [d] }
  | _ => none }
def FnExactHexOfWrongFalsely : Prop := fnExactHexOfRow.holds Try.pinned (OpenSpec.ofChange fnExactHexOfWrong)

/-- 'laws.FnExactIsFlightName': WHATEVER THE INPUT: true; the input reads as it did. -/
def fnExactIsFlightNameSpec : ChangeSpec := { name := "fnExactIsFlightName", fn := fun _ => fun
  | [d] => { results := [.lit (.bool true)], args := [d] }
  | _ => none }
def fnExactIsFlightNameRow : OpenClaim := { program := "ytcgbimdlackpeaa", sum := "6758068cf8064397575b49aeb6bf201ba297f05e85b1f9f26aef08ed31f40e03", func := "loop.example/g00875/laws.FnExactIsFlightName", spec := "fnExactIsFlightName", apart := false }
def FnExactIsFlightNameSaid : Prop := fnExactIsFlightNameRow.holds Try.pinned (OpenSpec.ofChange fnExactIsFlightNameSpec)

/-- ITS FALSE NEIGHBOUR: 'it returns false'. Refute it at one input. -/
def fnExactIsFlightNameWrong : ChangeSpec := { name := "fnExactIsFlightName", fn := fun _ => fun
  | [d] => { results := [.lit (.bool false)], args := [d] }
  | _ => none }
def FnExactIsFlightNameWrongFalsely : Prop := fnExactIsFlightNameRow.holds Try.pinned (OpenSpec.ofChange fnExactIsFlightNameWrong)

/-- 'laws.FnExactSplitFlightName': WHATEVER THE INPUT: true; the input reads as it did. -/
def fnExactSplitFlightNameSpec : ChangeSpec := { name := "fnExactSplitFlightName", fn := fun _ => fun
  | [d] => { results := [.lit (.bool true)], args := [d] }
  | _ => none }
def fnExactSplitFlightNameRow : OpenClaim := { program := "ytcgbimdlackpeaa", sum := "6758068cf8064397575b49aeb6bf201ba297f05e85b1f9f26aef08ed31f40e03", func := "loop.example/g00875/laws.FnExactSplitFlightName", spec := "fnExactSplitFlightName", recurses := true, apart := false }
def FnExactSplitFlightNameSaid : Prop := fnExactSplitFlightNameRow.holds Try.pinned (OpenSpec.ofChange fnExactSplitFlightNameSpec)

/-- ITS FALSE NEIGHBOUR: 'it returns false'. Refute it at one input. -/
def fnExactSplitFlightNameWrong : ChangeSpec := { name := "fnExactSplitFlightName", fn := fun _ => fun
  | [d] => { results := [.lit (.bool false)], args := [d] }
  | _ => none }
def FnExactSplitFlightNameWrongFalsely : Prop := fnExactSplitFlightNameRow.holds Try.pinned (OpenSpec.ofChange fnExactSplitFlightNameWrong)

/-- 'laws.FnExactNameBits': WHATEVER THE INPUT: true; the input reads as it did. -/
def fnExactNameBitsSpec : ChangeSpec := { name := "fnExactNameBits", fn := fun _ => fun
  | [d] => { results := [.lit (.bool true)], args := [d] }
  | _ => none }
def fnExactNameBitsRow : OpenClaim := { program := "ytcgbimdlackpeaa", sum := "6758068cf8064397575b49aeb6bf201ba297f05e85b1f9f26aef08ed31f40e03", func := "loop.example/g00875/laws.FnExactNameBits", spec := "fnExactNameBits", apart := false }
def FnExactNameBitsSaid : Prop := fnExactNameBitsRow.holds Try.pinned (OpenSpec.ofChange fnExactNameBitsSpec)

/-- ITS FALSE NEIGHBOUR: 'it returns false'. Refute it at one input. -/
def fnExactNameBitsWrong : ChangeSpec := { name := "fnExactNameBits", fn := fun _ => fun
  | [d] => { results := [.lit (.bool false)], args := [d] }
  | _ => none }
def FnExactNameBitsWrongFalsely : Prop := fnExactNameBitsRow.holds Try.pinned (OpenSpec.ofChange fnExactNameBitsWrong)

/-- 'laws.FnExactNamePart': WHATEVER THE INPUT: true; the input reads as it did. -/
def fnExactNamePartSpec : ChangeSpec := { name := "fnExactNamePart", fn := fun _ => fun
  | [d1, d2] => { results := [.lit (.bool true)], args := [d1, d2] }
  | _ => none }
def fnExactNamePartRow : OpenClaim := { program := "ytcgbimdlackpeaa", sum := "6758068cf8064397575b49aeb6bf201ba297f05e85b1f9f26aef08ed31f40e03", func := "loop.example/g00875/laws.FnExactNamePart", spec := "fnExactNamePart", apart := false }
def FnExactNamePartSaid : Prop := fnExactNamePartRow.holds Try.pinned (OpenSpec.ofChange fnExactNamePartSpec)

/-- ITS FALSE NEIGHBOUR: 'it returns false'. Refute it at one input. -/
def fnExactNamePartWrong : ChangeSpec := { name := "fnExactNamePart", fn := fun _ => fun
  | [d1, d2] => { results := [.lit (.bool false)], args := [d1, d2] }
  | _ => none }
def FnExactNamePartWrongFalsely : Prop := fnExactNamePartRow.holds Try.pinned (OpenSpec.ofChange fnExactNamePartWrong)

/-- 'laws.FnExactParseNameBits': WHATEVER THE INPUT: true; the input reads as it did. -/
def fnExactParseNameBitsSpec : ChangeSpec := { name := "fnExactParseNameBits", fn := fun _ => fun
  | [d] => { results := [.lit (.bool true)], args := [d] }
  | _ => none }
def fnExactParseNameBitsRow : OpenClaim := { program := "ytcgbimdlackpeaa", sum := "6758068cf8064397575b49aeb6bf201ba297f05e85b1f9f26aef08ed31f40e03", func := "loop.example/g00875/laws.FnExactParseNameBits", spec := "fnExactParseNameBits", apart := false }
def FnExactParseNameBitsSaid : Prop := fnExactParseNameBitsRow.holds Try.pinned (OpenSpec.ofChange fnExactParseNameBitsSpec)

/-- ITS FALSE NEIGHBOUR: 'it returns false'. Refute it at one input. -/
def fnExactParseNameBitsWrong : ChangeSpec := { name := "fnExactParseNameBits", fn := fun _ => fun
  | [d] => { results := [.lit (.bool false)], args := [d] }
  | _ => none }
def FnExactParseNameBitsWrongFalsely : Prop := fnExactParseNameBitsRow.holds Try.pinned (OpenSpec.ofChange fnExactParseNameBitsWrong)

/-- 'laws.FnExactJoinNameParts': WHATEVER THE INPUT: true; the input reads as it did. -/
def fnExactJoinNamePartsSpec : ChangeSpec := { name := "fnExactJoinNameParts", fn := fun _ => fun
  | [d1, d2] => { results := [.lit (.bool true)], args := [d1, d2] }
  | _ => none }
def fnExactJoinNamePartsRow : OpenClaim := { program := "ytcgbimdlackpeaa", sum := "6758068cf8064397575b49aeb6bf201ba297f05e85b1f9f26aef08ed31f40e03", func := "loop.example/g00875/laws.FnExactJoinNameParts", spec := "fnExactJoinNameParts", apart := false }
def FnExactJoinNamePartsSaid : Prop := fnExactJoinNamePartsRow.holds Try.pinned (OpenSpec.ofChange fnExactJoinNamePartsSpec)

/-- ITS FALSE NEIGHBOUR: 'it returns false'. Refute it at one input. -/
def fnExactJoinNamePartsWrong : ChangeSpec := { name := "fnExactJoinNameParts", fn := fun _ => fun
  | [d1, d2] => { results := [.lit (.bool false)], args := [d1, d2] }
  | _ => none }
def FnExactJoinNamePartsWrongFalsely : Prop := fnExactJoinNamePartsRow.holds Try.pinned (OpenSpec.ofChange fnExactJoinNamePartsWrong)

/-- 'laws.FnExactNearestName': WHATEVER THE INPUT: true; the input reads as it did. -/
def fnExactNearestNameSpec : ChangeSpec := { name := "fnExactNearestName", fn := fun _ => fun
  | [d1, d2] => { results := [.lit (.bool true)], args := [d1, d2] }
  | _ => none }
def fnExactNearestNameRow : OpenClaim := { program := "ytcgbimdlackpeaa", sum := "6758068cf8064397575b49aeb6bf201ba297f05e85b1f9f26aef08ed31f40e03", func := "loop.example/g00875/laws.FnExactNearestName", spec := "fnExactNearestName", apart := false }
def FnExactNearestNameSaid : Prop := fnExactNearestNameRow.holds Try.pinned (OpenSpec.ofChange fnExactNearestNameSpec)

/-- ITS FALSE NEIGHBOUR: 'it returns false'. Refute it at one input. -/
def fnExactNearestNameWrong : ChangeSpec := { name := "fnExactNearestName", fn := fun _ => fun
  | [d1, d2] => { results := [.lit (.bool false)], args := [d1, d2] }
  | _ => none }
def FnExactNearestNameWrongFalsely : Prop := fnExactNearestNameRow.holds Try.pinned (OpenSpec.ofChange fnExactNearestNameWrong)

/-- 'laws.FnExactFrameText': WHATEVER THE INPUT: true; the input reads as it did. -/
def fnExactFrameTextSpec : ChangeSpec := { name := "fnExactFrameText", fn := fun _ => fun
  | [d] => { results := [.lit (.bool true)], args := [d] }
  | _ => none }
def fnExactFrameTextRow : OpenClaim := { program := "ytcgbimdlackpeaa", sum := "6758068cf8064397575b49aeb6bf201ba297f05e85b1f9f26aef08ed31f40e03", func := "loop.example/g00875/laws.FnExactFrameText", spec := "fnExactFrameText", apart := false }
def FnExactFrameTextSaid : Prop := fnExactFrameTextRow.holds Try.pinned (OpenSpec.ofChange fnExactFrameTextSpec)

/-- ITS FALSE NEIGHBOUR: 'it returns false'. Refute it at one input. -/
def fnExactFrameTextWrong : ChangeSpec := { name := "fnExactFrameText", fn := fun _ => fun
  | [d] => { results := [.lit (.bool false)], args := [d] }
  | _ => none }
def FnExactFrameTextWrongFalsely : Prop := fnExactFrameTextRow.holds Try.pinned (OpenSpec.ofChange fnExactFrameTextWrong)

/-- 'laws.FnExactParseFrameText': WHATEVER THE INPUT: true; the input reads as it did. -/
def fnExactParseFrameTextSpec : ChangeSpec := { name := "fnExactParseFrameText", fn := fun _ => fun
  | [d] => { results := [.lit (.bool true)], args := [d] }
  | _ => none }
def fnExactParseFrameTextRow : OpenClaim := { program := "ytcgbimdlackpeaa", sum := "6758068cf8064397575b49aeb6bf201ba297f05e85b1f9f26aef08ed31f40e03", func := "loop.example/g00875/laws.FnExactParseFrameText", spec := "fnExactParseFrameText", apart := false }
def FnExactParseFrameTextSaid : Prop := fnExactParseFrameTextRow.holds Try.pinned (OpenSpec.ofChange fnExactParseFrameTextSpec)

/-- ITS FALSE NEIGHBOUR: 'it returns false'. Refute it at one input. -/
def fnExactParseFrameTextWrong : ChangeSpec := { name := "fnExactParseFrameText", fn := fun _ => fun
  | [d] => { results := [.lit (.bool false)], args := [d] }
  | _ => none }
def FnExactParseFrameTextWrongFalsely : Prop := fnExactParseFrameTextRow.holds Try.pinned (OpenSpec.ofChange fnExactParseFrameTextWrong)

/- THE SECOND FORM. 'bulk': how many values and letters a reading holds, each counted each time it is reached (what is shared counts as often as it is met; a slice's spare places count too). A statement '..UptoSaid' is the law's where the arguments, and the package variables that the reading takes, are together of bulk at most 1048576: NARROWER than '..Said'. Prove '..Said' where nothing that the law and all that it calls make is longer than what came in: it says more and counts as full. Else prove '..UptoSaid'. A law counts once. -/
mutual
def uptoBulk {H : Type} : DataW H → Nat
  | .lit (.string bytes) => bytes.length + 1
  | .lit _ => 1
  | .nil => 1
  | .ptr d => uptoBulk d + 1
  | .slice elems spare => uptoBulkAll elems + uptoBulkAll spare + 1
  | .agg parts => uptoBulkAll parts + 1
  | .iface _ d => uptoBulk d + 1
  | .map entries => uptoBulkEntries entries + 1
  | .held _ => 1
def uptoBulkAll {H : Type} : List (DataW H) → Nat
  | [] => 0
  | d :: r => uptoBulk d + uptoBulkAll r
def uptoBulkEntries {H : Type} : List (Lit × DataW H) → Nat
  | [] => 0
  | x :: r => uptoBulkEntry x + uptoBulkEntries r
def uptoBulkEntry {H : Type} : Lit × DataW H → Nat
  | (.string bytes, d) => bytes.length + uptoBulk d + 1
  | (_, d) => uptoBulk d + 1
 end
def uptoSmall : (H : Type) → List (DataW H) → Bool := fun _ ds => decide (uptoBulkAll ds ≤ 1048576)
def OpenSpec.upto (s : _root_.Go.ChangeSpec) : _root_.Go.OpenSpec := { _root_.Go.OpenSpec.ofChange s with cond := some uptoSmall }

/-- 'laws.FnExactXorBits', WHERE WHAT IT READS IS OF BULK AT MOST 1048576: true; the input reads as it did. -/
def fnExactXorBitsUptoRow : OpenClaim := { program := "ytcgbimdlackpeaa", sum := "6758068cf8064397575b49aeb6bf201ba297f05e85b1f9f26aef08ed31f40e03", func := "loop.example/g00875/laws.FnExactXorBits", spec := "fnExactXorBits", apart := false, narrowed := true }
def FnExactXorBitsUptoSaid : Prop := fnExactXorBitsUptoRow.holds Try.pinned (OpenSpec.upto fnExactXorBitsSpec)

/-- 'laws.FnExactBitsFromHex', WHERE WHAT IT READS IS OF BULK AT MOST 1048576: true; the input reads as it did. -/
def fnExactBitsFromHexUptoRow : OpenClaim := { program := "ytcgbimdlackpeaa", sum := "6758068cf8064397575b49aeb6bf201ba297f05e85b1f9f26aef08ed31f40e03", func := "loop.example/g00875/laws.FnExactBitsFromHex", spec := "fnExactBitsFromHex", apart := false, narrowed := true }
def FnExactBitsFromHexUptoSaid : Prop := fnExactBitsFromHexUptoRow.holds Try.pinned (OpenSpec.upto fnExactBitsFromHexSpec)

/-- 'laws.FnExactHexOf', WHERE WHAT IT READS IS OF BULK AT MOST 1048576: true; the input reads as it did. -/
def fnExactHexOfUptoRow : OpenClaim := { program := "ytcgbimdlackpeaa", sum := "6758068cf8064397575b49aeb6bf201ba297f05e85b1f9f26aef08ed31f40e03", func := "loop.example/g00875/laws.FnExactHexOf", spec := "fnExactHexOf", apart := false, narrowed := true }
def FnExactHexOfUptoSaid : Prop := fnExactHexOfUptoRow.holds Try.pinned (OpenSpec.upto fnExactHexOfSpec)

/-- 'laws.FnExactIsFlightName', WHERE WHAT IT READS IS OF BULK AT MOST 1048576: true; the input reads as it did. -/
def fnExactIsFlightNameUptoRow : OpenClaim := { program := "ytcgbimdlackpeaa", sum := "6758068cf8064397575b49aeb6bf201ba297f05e85b1f9f26aef08ed31f40e03", func := "loop.example/g00875/laws.FnExactIsFlightName", spec := "fnExactIsFlightName", apart := false, narrowed := true }
def FnExactIsFlightNameUptoSaid : Prop := fnExactIsFlightNameUptoRow.holds Try.pinned (OpenSpec.upto fnExactIsFlightNameSpec)

/-- 'laws.FnExactSplitFlightName', WHERE WHAT IT READS IS OF BULK AT MOST 1048576: true; the input reads as it did. -/
def fnExactSplitFlightNameUptoRow : OpenClaim := { program := "ytcgbimdlackpeaa", sum := "6758068cf8064397575b49aeb6bf201ba297f05e85b1f9f26aef08ed31f40e03", func := "loop.example/g00875/laws.FnExactSplitFlightName", spec := "fnExactSplitFlightName", recurses := true, apart := false, narrowed := true }
def FnExactSplitFlightNameUptoSaid : Prop := fnExactSplitFlightNameUptoRow.holds Try.pinned (OpenSpec.upto fnExactSplitFlightNameSpec)

/-- 'laws.FnExactNameBits', WHERE WHAT IT READS IS OF BULK AT MOST 1048576: true; the input reads as it did. -/
def fnExactNameBitsUptoRow : OpenClaim := { program := "ytcgbimdlackpeaa", sum := "6758068cf8064397575b49aeb6bf201ba297f05e85b1f9f26aef08ed31f40e03", func := "loop.example/g00875/laws.FnExactNameBits", spec := "fnExactNameBits", apart := false, narrowed := true }
def FnExactNameBitsUptoSaid : Prop := fnExactNameBitsUptoRow.holds Try.pinned (OpenSpec.upto fnExactNameBitsSpec)

/-- 'laws.FnExactNamePart', WHERE WHAT IT READS IS OF BULK AT MOST 1048576: true; the input reads as it did. -/
def fnExactNamePartUptoRow : OpenClaim := { program := "ytcgbimdlackpeaa", sum := "6758068cf8064397575b49aeb6bf201ba297f05e85b1f9f26aef08ed31f40e03", func := "loop.example/g00875/laws.FnExactNamePart", spec := "fnExactNamePart", apart := false, narrowed := true }
def FnExactNamePartUptoSaid : Prop := fnExactNamePartUptoRow.holds Try.pinned (OpenSpec.upto fnExactNamePartSpec)

/-- 'laws.FnExactParseNameBits', WHERE WHAT IT READS IS OF BULK AT MOST 1048576: true; the input reads as it did. -/
def fnExactParseNameBitsUptoRow : OpenClaim := { program := "ytcgbimdlackpeaa", sum := "6758068cf8064397575b49aeb6bf201ba297f05e85b1f9f26aef08ed31f40e03", func := "loop.example/g00875/laws.FnExactParseNameBits", spec := "fnExactParseNameBits", apart := false, narrowed := true }
def FnExactParseNameBitsUptoSaid : Prop := fnExactParseNameBitsUptoRow.holds Try.pinned (OpenSpec.upto fnExactParseNameBitsSpec)

/-- 'laws.FnExactJoinNameParts', WHERE WHAT IT READS IS OF BULK AT MOST 1048576: true; the input reads as it did. -/
def fnExactJoinNamePartsUptoRow : OpenClaim := { program := "ytcgbimdlackpeaa", sum := "6758068cf8064397575b49aeb6bf201ba297f05e85b1f9f26aef08ed31f40e03", func := "loop.example/g00875/laws.FnExactJoinNameParts", spec := "fnExactJoinNameParts", apart := false, narrowed := true }
def FnExactJoinNamePartsUptoSaid : Prop := fnExactJoinNamePartsUptoRow.holds Try.pinned (OpenSpec.upto fnExactJoinNamePartsSpec)

/-- 'laws.FnExactNearestName', WHERE WHAT IT READS IS OF BULK AT MOST 1048576: true; the input reads as it did. -/
def fnExactNearestNameUptoRow : OpenClaim := { program := "ytcgbimdlackpeaa", sum := "6758068cf8064397575b49aeb6bf201ba297f05e85b1f9f26aef08ed31f40e03", func := "loop.example/g00875/laws.FnExactNearestName", spec := "fnExactNearestName", apart := false, narrowed := true }
def FnExactNearestNameUptoSaid : Prop := fnExactNearestNameUptoRow.holds Try.pinned (OpenSpec.upto fnExactNearestNameSpec)

/-- 'laws.FnExactFrameText', WHERE WHAT IT READS IS OF BULK AT MOST 1048576: true; the input reads as it did. -/
def fnExactFrameTextUptoRow : OpenClaim := { program := "ytcgbimdlackpeaa", sum := "6758068cf8064397575b49aeb6bf201ba297f05e85b1f9f26aef08ed31f40e03", func := "loop.example/g00875/laws.FnExactFrameText", spec := "fnExactFrameText", apart := false, narrowed := true }
def FnExactFrameTextUptoSaid : Prop := fnExactFrameTextUptoRow.holds Try.pinned (OpenSpec.upto fnExactFrameTextSpec)

/-- 'laws.FnExactParseFrameText', WHERE WHAT IT READS IS OF BULK AT MOST 1048576: true; the input reads as it did. -/
def fnExactParseFrameTextUptoRow : OpenClaim := { program := "ytcgbimdlackpeaa", sum := "6758068cf8064397575b49aeb6bf201ba297f05e85b1f9f26aef08ed31f40e03", func := "loop.example/g00875/laws.FnExactParseFrameText", spec := "fnExactParseFrameText", apart := false, narrowed := true }
def FnExactParseFrameTextUptoSaid : Prop := fnExactParseFrameTextUptoRow.holds Try.pinned (OpenSpec.upto fnExactParseFrameTextSpec)

end Rows
end Go.Proofs.Ytcgbimdlackpeaa
