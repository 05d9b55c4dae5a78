/-
  No cell of these rows narrows 'for every input' (looked for: loops, veiled, ifaces, maps, wideKeys, modest, calm, conditions, laid).
  DERIVED. THE GIVEN ROWS OF THIS SEAT. 12 by the template 'for every input the law returns true; each argument reads behind the call as it read before'; 0 by the template 'total and deterministic' (their statements: YtjmcfnfhohihpaaTotals.lean).
  GIVEN WITH THE SEED: the statements are not yours to turn. If you find one false, say at which input.
  Laid BY PROGRAM, IN A SANDBOX (cutbox-rows.mjs): the forced cells as the released guide's own fill.sh prints them over the translation 2888314eb8b7fa7f… (all of the seat's roots in one cut). By AI agents, Wed Nov 11 2026. No macro, syntax, notation, axiom, sorry.
-/
import Derived.Test.YtjmcfnfhohihpaaChecked
import GoSem.Claim
import GoSem.ClaimJoined
import GoSem.ClaimMapViews
import Derived.JoinedTies
import Derived.KernelRfl
namespace Go.Proofs.Ytjmcfnfhohihpaa
/- THE CELL 'sum', in the pinned program and in every row, IS THE sha256 OF THE DUMP (.gsa) THAT YtjmcfnfhohihpaaProg.lean LOADS. Nothing in Lean hashes anything: it is a label: what it is worth is what the hold of that sum in a sandbox is worth. -/
noncomputable def Try.pinned : Pinned := { name := "ytjmcfnfhohihpaa", sum := "2888314eb8b7fa7ffa6d1a9f9bdd47307a0a47f222168498f1b14238bba03570", checked := Try.checked }
namespace Rows
def none {H : Type} : Left H := { results := [], args := [] }

/-- 'laws.FnExactConstants': WHATEVER THE INPUT: true; the input reads as it did. -/
def fnExactConstantsSpec : ChangeSpec := { name := "fnExactConstants", fn := fun _ => fun
  | [] => { results := [.lit (.bool true)], args := [] }
  | _ => none }
def fnExactConstantsRow : OpenClaim := { program := "ytjmcfnfhohihpaa", sum := "2888314eb8b7fa7ffa6d1a9f9bdd47307a0a47f222168498f1b14238bba03570", func := "loop.example/g00875/laws.FnExactConstants", spec := "fnExactConstants", apart := false }
def FnExactConstantsSaid : Prop := fnExactConstantsRow.holds Try.pinned (OpenSpec.ofChange fnExactConstantsSpec)

/-- ITS FALSE NEIGHBOUR: 'it returns false'. Refute it at one input. -/
def fnExactConstantsWrong : ChangeSpec := { name := "fnExactConstants", fn := fun _ => fun
  | [] => { results := [.lit (.bool false)], args := [] }
  | _ => none }
def FnExactConstantsWrongFalsely : Prop := fnExactConstantsRow.holds Try.pinned (OpenSpec.ofChange fnExactConstantsWrong)

/-- 'laws.FnExactLessString': WHATEVER THE INPUT: true; the input reads as it did. -/
def fnExactLessStringSpec : ChangeSpec := { name := "fnExactLessString", fn := fun _ => fun
  | [d1, d2] => { results := [.lit (.bool true)], args := [d1, d2] }
  | _ => none }
def fnExactLessStringRow : OpenClaim := { program := "ytjmcfnfhohihpaa", sum := "2888314eb8b7fa7ffa6d1a9f9bdd47307a0a47f222168498f1b14238bba03570", func := "loop.example/g00875/laws.FnExactLessString", spec := "fnExactLessString", apart := false }
def FnExactLessStringSaid : Prop := fnExactLessStringRow.holds Try.pinned (OpenSpec.ofChange fnExactLessStringSpec)

/-- ITS FALSE NEIGHBOUR: 'it returns false'. Refute it at one input. -/
def fnExactLessStringWrong : ChangeSpec := { name := "fnExactLessString", fn := fun _ => fun
  | [d1, d2] => { results := [.lit (.bool false)], args := [d1, d2] }
  | _ => none }
def FnExactLessStringWrongFalsely : Prop := fnExactLessStringRow.holds Try.pinned (OpenSpec.ofChange fnExactLessStringWrong)

/-- 'laws.FnExactChecksum': WHATEVER THE INPUT: true; the input reads as it did. -/
def fnExactChecksumSpec : ChangeSpec := { name := "fnExactChecksum", fn := fun _ => fun
  | [d] => { results := [.lit (.bool true)], args := [d] }
  | _ => none }
def fnExactChecksumRow : OpenClaim := { program := "ytjmcfnfhohihpaa", sum := "2888314eb8b7fa7ffa6d1a9f9bdd47307a0a47f222168498f1b14238bba03570", func := "loop.example/g00875/laws.FnExactChecksum", spec := "fnExactChecksum", apart := false }
def FnExactChecksumSaid : Prop := fnExactChecksumRow.holds Try.pinned (OpenSpec.ofChange fnExactChecksumSpec)

/-- ITS FALSE NEIGHBOUR: 'it returns false'. Refute it at one input. -/
def fnExactChecksumWrong : ChangeSpec := { name := "fnExactChecksum", fn := fun _ => fun
  | [d] => { results := [.lit (.bool false)], args := [d] }
  | _ => none }
def FnExactChecksumWrongFalsely : Prop := fnExactChecksumRow.holds Try.pinned (OpenSpec.ofChange fnExactChecksumWrong)

/-- 'laws.FnExactFormatInt': WHATEVER THE INPUT: true; the input reads as it did. -/
def fnExactFormatIntSpec : ChangeSpec := { name := "fnExactFormatInt", fn := fun _ => fun
  | [d] => { results := [.lit (.bool true)], args := [d] }
  | _ => none }
def fnExactFormatIntRow : OpenClaim := { program := "ytjmcfnfhohihpaa", sum := "2888314eb8b7fa7ffa6d1a9f9bdd47307a0a47f222168498f1b14238bba03570", func := "loop.example/g00875/laws.FnExactFormatInt", spec := "fnExactFormatInt", recurses := true, apart := false }
def FnExactFormatIntSaid : Prop := fnExactFormatIntRow.holds Try.pinned (OpenSpec.ofChange fnExactFormatIntSpec)

/-- ITS FALSE NEIGHBOUR: 'it returns false'. Refute it at one input. -/
def fnExactFormatIntWrong : ChangeSpec := { name := "fnExactFormatInt", fn := fun _ => fun
  | [d] => { results := [.lit (.bool false)], args := [d] }
  | _ => none }
def FnExactFormatIntWrongFalsely : Prop := fnExactFormatIntRow.holds Try.pinned (OpenSpec.ofChange fnExactFormatIntWrong)

/-- 'laws.FnExactParseInt': WHATEVER THE INPUT: true; the input reads as it did. -/
def fnExactParseIntSpec : ChangeSpec := { name := "fnExactParseInt", fn := fun _ => fun
  | [d] => { results := [.lit (.bool true)], args := [d] }
  | _ => none }
def fnExactParseIntRow : OpenClaim := { program := "ytjmcfnfhohihpaa", sum := "2888314eb8b7fa7ffa6d1a9f9bdd47307a0a47f222168498f1b14238bba03570", func := "loop.example/g00875/laws.FnExactParseInt", spec := "fnExactParseInt", recurses := true, apart := false }
def FnExactParseIntSaid : Prop := fnExactParseIntRow.holds Try.pinned (OpenSpec.ofChange fnExactParseIntSpec)

/-- ITS FALSE NEIGHBOUR: 'it returns false'. Refute it at one input. -/
def fnExactParseIntWrong : ChangeSpec := { name := "fnExactParseInt", fn := fun _ => fun
  | [d] => { results := [.lit (.bool false)], args := [d] }
  | _ => none }
def FnExactParseIntWrongFalsely : Prop := fnExactParseIntRow.holds Try.pinned (OpenSpec.ofChange fnExactParseIntWrong)

/-- 'laws.FnExactSplitString': WHATEVER THE INPUT: true; the input reads as it did. -/
def fnExactSplitStringSpec : ChangeSpec := { name := "fnExactSplitString", fn := fun _ => fun
  | [d1, d2] => { results := [.lit (.bool true)], args := [d1, d2] }
  | _ => none }
def fnExactSplitStringRow : OpenClaim := { program := "ytjmcfnfhohihpaa", sum := "2888314eb8b7fa7ffa6d1a9f9bdd47307a0a47f222168498f1b14238bba03570", func := "loop.example/g00875/laws.FnExactSplitString", spec := "fnExactSplitString", apart := false }
def FnExactSplitStringSaid : Prop := fnExactSplitStringRow.holds Try.pinned (OpenSpec.ofChange fnExactSplitStringSpec)

/-- ITS FALSE NEIGHBOUR: 'it returns false'. Refute it at one input. -/
def fnExactSplitStringWrong : ChangeSpec := { name := "fnExactSplitString", fn := fun _ => fun
  | [d1, d2] => { results := [.lit (.bool false)], args := [d1, d2] }
  | _ => none }
def FnExactSplitStringWrongFalsely : Prop := fnExactSplitStringRow.holds Try.pinned (OpenSpec.ofChange fnExactSplitStringWrong)

/-- 'laws.FnExactAppendChecksum': WHATEVER THE INPUT: true; the input reads as it did. -/
def fnExactAppendChecksumSpec : ChangeSpec := { name := "fnExactAppendChecksum", fn := fun _ => fun
  | [d] => { results := [.lit (.bool true)], args := [d] }
  | _ => none }
def fnExactAppendChecksumRow : OpenClaim := { program := "ytjmcfnfhohihpaa", sum := "2888314eb8b7fa7ffa6d1a9f9bdd47307a0a47f222168498f1b14238bba03570", func := "loop.example/g00875/laws.FnExactAppendChecksum", spec := "fnExactAppendChecksum", recurses := true, apart := false }
def FnExactAppendChecksumSaid : Prop := fnExactAppendChecksumRow.holds Try.pinned (OpenSpec.ofChange fnExactAppendChecksumSpec)

/-- ITS FALSE NEIGHBOUR: 'it returns false'. Refute it at one input. -/
def fnExactAppendChecksumWrong : ChangeSpec := { name := "fnExactAppendChecksum", fn := fun _ => fun
  | [d] => { results := [.lit (.bool false)], args := [d] }
  | _ => none }
def FnExactAppendChecksumWrongFalsely : Prop := fnExactAppendChecksumRow.holds Try.pinned (OpenSpec.ofChange fnExactAppendChecksumWrong)

/-- 'laws.FnExactVerifyChecksum': WHATEVER THE INPUT: true; the input reads as it did. -/
def fnExactVerifyChecksumSpec : ChangeSpec := { name := "fnExactVerifyChecksum", fn := fun _ => fun
  | [d] => { results := [.lit (.bool true)], args := [d] }
  | _ => none }
def fnExactVerifyChecksumRow : OpenClaim := { program := "ytjmcfnfhohihpaa", sum := "2888314eb8b7fa7ffa6d1a9f9bdd47307a0a47f222168498f1b14238bba03570", func := "loop.example/g00875/laws.FnExactVerifyChecksum", spec := "fnExactVerifyChecksum", recurses := true, apart := false }
def FnExactVerifyChecksumSaid : Prop := fnExactVerifyChecksumRow.holds Try.pinned (OpenSpec.ofChange fnExactVerifyChecksumSpec)

/-- ITS FALSE NEIGHBOUR: 'it returns false'. Refute it at one input. -/
def fnExactVerifyChecksumWrong : ChangeSpec := { name := "fnExactVerifyChecksum", fn := fun _ => fun
  | [d] => { results := [.lit (.bool false)], args := [d] }
  | _ => none }
def FnExactVerifyChecksumWrongFalsely : Prop := fnExactVerifyChecksumRow.holds Try.pinned (OpenSpec.ofChange fnExactVerifyChecksumWrong)

/-- 'laws.FnExactJoinStrings': WHATEVER THE INPUT: true; the input reads as it did. -/
def fnExactJoinStringsSpec : ChangeSpec := { name := "fnExactJoinStrings", fn := fun _ => fun
  | [d1, d2] => { results := [.lit (.bool true)], args := [d1, d2] }
  | _ => none }
def fnExactJoinStringsRow : OpenClaim := { program := "ytjmcfnfhohihpaa", sum := "2888314eb8b7fa7ffa6d1a9f9bdd47307a0a47f222168498f1b14238bba03570", func := "loop.example/g00875/laws.FnExactJoinStrings", spec := "fnExactJoinStrings", apart := false }
def FnExactJoinStringsSaid : Prop := fnExactJoinStringsRow.holds Try.pinned (OpenSpec.ofChange fnExactJoinStringsSpec)

/-- ITS FALSE NEIGHBOUR: 'it returns false'. Refute it at one input. -/
def fnExactJoinStringsWrong : ChangeSpec := { name := "fnExactJoinStrings", fn := fun _ => fun
  | [d1, d2] => { results := [.lit (.bool false)], args := [d1, d2] }
  | _ => none }
def FnExactJoinStringsWrongFalsely : Prop := fnExactJoinStringsRow.holds Try.pinned (OpenSpec.ofChange fnExactJoinStringsWrong)

/-- 'laws.FnExactIsValidFrame': WHATEVER THE INPUT: true; the input reads as it did. -/
def fnExactIsValidFrameSpec : ChangeSpec := { name := "fnExactIsValidFrame", fn := fun _ => fun
  | [d] => { results := [.lit (.bool true)], args := [d] }
  | _ => none }
def fnExactIsValidFrameRow : OpenClaim := { program := "ytjmcfnfhohihpaa", sum := "2888314eb8b7fa7ffa6d1a9f9bdd47307a0a47f222168498f1b14238bba03570", func := "loop.example/g00875/laws.FnExactIsValidFrame", spec := "fnExactIsValidFrame", apart := false }
def FnExactIsValidFrameSaid : Prop := fnExactIsValidFrameRow.holds Try.pinned (OpenSpec.ofChange fnExactIsValidFrameSpec)

/-- ITS FALSE NEIGHBOUR: 'it returns false'. Refute it at one input. -/
def fnExactIsValidFrameWrong : ChangeSpec := { name := "fnExactIsValidFrame", fn := fun _ => fun
  | [d] => { results := [.lit (.bool false)], args := [d] }
  | _ => none }
def FnExactIsValidFrameWrongFalsely : Prop := fnExactIsValidFrameRow.holds Try.pinned (OpenSpec.ofChange fnExactIsValidFrameWrong)

/-- 'laws.FnExactLetterOf': WHATEVER THE INPUT: true; the input reads as it did. -/
def fnExactLetterOfSpec : ChangeSpec := { name := "fnExactLetterOf", fn := fun _ => fun
  | [d] => { results := [.lit (.bool true)], args := [d] }
  | _ => none }
def fnExactLetterOfRow : OpenClaim := { program := "ytjmcfnfhohihpaa", sum := "2888314eb8b7fa7ffa6d1a9f9bdd47307a0a47f222168498f1b14238bba03570", func := "loop.example/g00875/laws.FnExactLetterOf", spec := "fnExactLetterOf", apart := false }
def FnExactLetterOfSaid : Prop := fnExactLetterOfRow.holds Try.pinned (OpenSpec.ofChange fnExactLetterOfSpec)

/-- ITS FALSE NEIGHBOUR: 'it returns false'. Refute it at one input. -/
def fnExactLetterOfWrong : ChangeSpec := { name := "fnExactLetterOf", fn := fun _ => fun
  | [d] => { results := [.lit (.bool false)], args := [d] }
  | _ => none }
def FnExactLetterOfWrongFalsely : Prop := fnExactLetterOfRow.holds Try.pinned (OpenSpec.ofChange fnExactLetterOfWrong)

/-- 'laws.FnExactLetterCode': WHATEVER THE INPUT: true; the input reads as it did. -/
def fnExactLetterCodeSpec : ChangeSpec := { name := "fnExactLetterCode", fn := fun _ => fun
  | [d] => { results := [.lit (.bool true)], args := [d] }
  | _ => none }
def fnExactLetterCodeRow : OpenClaim := { program := "ytjmcfnfhohihpaa", sum := "2888314eb8b7fa7ffa6d1a9f9bdd47307a0a47f222168498f1b14238bba03570", func := "loop.example/g00875/laws.FnExactLetterCode", spec := "fnExactLetterCode", apart := false }
def FnExactLetterCodeSaid : Prop := fnExactLetterCodeRow.holds Try.pinned (OpenSpec.ofChange fnExactLetterCodeSpec)

/-- ITS FALSE NEIGHBOUR: 'it returns false'. Refute it at one input. -/
def fnExactLetterCodeWrong : ChangeSpec := { name := "fnExactLetterCode", fn := fun _ => fun
  | [d] => { results := [.lit (.bool false)], args := [d] }
  | _ => none }
def FnExactLetterCodeWrongFalsely : Prop := fnExactLetterCodeRow.holds Try.pinned (OpenSpec.ofChange fnExactLetterCodeWrong)

/- THE SECOND FORM. 'bulk': how many values and letters a reading holds, each counted each time it is reached (what is shared counts as often as it is met; a slice's spare places count too). A statement '..UptoSaid' is the law's where the arguments, and the package variables that the reading takes, are together of bulk at most 1048576: NARROWER than '..Said'. Prove '..Said' where nothing that the law and all that it calls make is longer than what came in: it says more and counts as full. Else prove '..UptoSaid'. A law counts once. -/
mutual
def uptoBulk {H : Type} : DataW H → Nat
  | .lit (.string bytes) => bytes.length + 1
  | .lit _ => 1
  | .nil => 1
  | .ptr d => uptoBulk d + 1
  | .slice elems spare => uptoBulkAll elems + uptoBulkAll spare + 1
  | .agg parts => uptoBulkAll parts + 1
  | .iface _ d => uptoBulk d + 1
  | .map entries => uptoBulkEntries entries + 1
  | .held _ => 1
def uptoBulkAll {H : Type} : List (DataW H) → Nat
  | [] => 0
  | d :: r => uptoBulk d + uptoBulkAll r
def uptoBulkEntries {H : Type} : List (Lit × DataW H) → Nat
  | [] => 0
  | x :: r => uptoBulkEntry x + uptoBulkEntries r
def uptoBulkEntry {H : Type} : Lit × DataW H → Nat
  | (.string bytes, d) => bytes.length + uptoBulk d + 1
  | (_, d) => uptoBulk d + 1
 end
def uptoSmall : (H : Type) → List (DataW H) → Bool := fun _ ds => decide (uptoBulkAll ds ≤ 1048576)
def OpenSpec.upto (s : _root_.Go.ChangeSpec) : _root_.Go.OpenSpec := { _root_.Go.OpenSpec.ofChange s with cond := some uptoSmall }

/-- 'laws.FnExactConstants', WHERE WHAT IT READS IS OF BULK AT MOST 1048576: true; the input reads as it did. -/
def fnExactConstantsUptoRow : OpenClaim := { program := "ytjmcfnfhohihpaa", sum := "2888314eb8b7fa7ffa6d1a9f9bdd47307a0a47f222168498f1b14238bba03570", func := "loop.example/g00875/laws.FnExactConstants", spec := "fnExactConstants", apart := false, narrowed := true }
def FnExactConstantsUptoSaid : Prop := fnExactConstantsUptoRow.holds Try.pinned (OpenSpec.upto fnExactConstantsSpec)

/-- 'laws.FnExactLessString', WHERE WHAT IT READS IS OF BULK AT MOST 1048576: true; the input reads as it did. -/
def fnExactLessStringUptoRow : OpenClaim := { program := "ytjmcfnfhohihpaa", sum := "2888314eb8b7fa7ffa6d1a9f9bdd47307a0a47f222168498f1b14238bba03570", func := "loop.example/g00875/laws.FnExactLessString", spec := "fnExactLessString", apart := false, narrowed := true }
def FnExactLessStringUptoSaid : Prop := fnExactLessStringUptoRow.holds Try.pinned (OpenSpec.upto fnExactLessStringSpec)

/-- 'laws.FnExactChecksum', WHERE WHAT IT READS IS OF BULK AT MOST 1048576: true; the input reads as it did. -/
def fnExactChecksumUptoRow : OpenClaim := { program := "ytjmcfnfhohihpaa", sum := "2888314eb8b7fa7ffa6d1a9f9bdd47307a0a47f222168498f1b14238bba03570", func := "loop.example/g00875/laws.FnExactChecksum", spec := "fnExactChecksum", apart := false, narrowed := true }
def FnExactChecksumUptoSaid : Prop := fnExactChecksumUptoRow.holds Try.pinned (OpenSpec.upto fnExactChecksumSpec)

/-- 'laws.FnExactFormatInt', WHERE WHAT IT READS IS OF BULK AT MOST 1048576: true; the input reads as it did. -/
def fnExactFormatIntUptoRow : OpenClaim := { program := "ytjmcfnfhohihpaa", sum := "2888314eb8b7fa7ffa6d1a9f9bdd47307a0a47f222168498f1b14238bba03570", func := "loop.example/g00875/laws.FnExactFormatInt", spec := "fnExactFormatInt", recurses := true, apart := false, narrowed := true }
def FnExactFormatIntUptoSaid : Prop := fnExactFormatIntUptoRow.holds Try.pinned (OpenSpec.upto fnExactFormatIntSpec)

/-- 'laws.FnExactParseInt', WHERE WHAT IT READS IS OF BULK AT MOST 1048576: true; the input reads as it did. -/
def fnExactParseIntUptoRow : OpenClaim := { program := "ytjmcfnfhohihpaa", sum := "2888314eb8b7fa7ffa6d1a9f9bdd47307a0a47f222168498f1b14238bba03570", func := "loop.example/g00875/laws.FnExactParseInt", spec := "fnExactParseInt", recurses := true, apart := false, narrowed := true }
def FnExactParseIntUptoSaid : Prop := fnExactParseIntUptoRow.holds Try.pinned (OpenSpec.upto fnExactParseIntSpec)

/-- 'laws.FnExactSplitString', WHERE WHAT IT READS IS OF BULK AT MOST 1048576: true; the input reads as it did. -/
def fnExactSplitStringUptoRow : OpenClaim := { program := "ytjmcfnfhohihpaa", sum := "2888314eb8b7fa7ffa6d1a9f9bdd47307a0a47f222168498f1b14238bba03570", func := "loop.example/g00875/laws.FnExactSplitString", spec := "fnExactSplitString", apart := false, narrowed := true }
def FnExactSplitStringUptoSaid : Prop := fnExactSplitStringUptoRow.holds Try.pinned (OpenSpec.upto fnExactSplitStringSpec)

/-- 'laws.FnExactAppendChecksum', WHERE WHAT IT READS IS OF BULK AT MOST 1048576: true; the input reads as it did. -/
def fnExactAppendChecksumUptoRow : OpenClaim := { program := "ytjmcfnfhohihpaa", sum := "2888314eb8b7fa7ffa6d1a9f9bdd47307a0a47f222168498f1b14238bba03570", func := "loop.example/g00875/laws.FnExactAppendChecksum", spec := "fnExactAppendChecksum", recurses := true, apart := false, narrowed := true }
def FnExactAppendChecksumUptoSaid : Prop := fnExactAppendChecksumUptoRow.holds Try.pinned (OpenSpec.upto fnExactAppendChecksumSpec)

/-- 'laws.FnExactVerifyChecksum', WHERE WHAT IT READS IS OF BULK AT MOST 1048576: true; the input reads as it did. -/
def fnExactVerifyChecksumUptoRow : OpenClaim := { program := "ytjmcfnfhohihpaa", sum := "2888314eb8b7fa7ffa6d1a9f9bdd47307a0a47f222168498f1b14238bba03570", func := "loop.example/g00875/laws.FnExactVerifyChecksum", spec := "fnExactVerifyChecksum", recurses := true, apart := false, narrowed := true }
def FnExactVerifyChecksumUptoSaid : Prop := fnExactVerifyChecksumUptoRow.holds Try.pinned (OpenSpec.upto fnExactVerifyChecksumSpec)

/-- 'laws.FnExactJoinStrings', WHERE WHAT IT READS IS OF BULK AT MOST 1048576: true; the input reads as it did. -/
def fnExactJoinStringsUptoRow : OpenClaim := { program := "ytjmcfnfhohihpaa", sum := "2888314eb8b7fa7ffa6d1a9f9bdd47307a0a47f222168498f1b14238bba03570", func := "loop.example/g00875/laws.FnExactJoinStrings", spec := "fnExactJoinStrings", apart := false, narrowed := true }
def FnExactJoinStringsUptoSaid : Prop := fnExactJoinStringsUptoRow.holds Try.pinned (OpenSpec.upto fnExactJoinStringsSpec)

/-- 'laws.FnExactIsValidFrame', WHERE WHAT IT READS IS OF BULK AT MOST 1048576: true; the input reads as it did. -/
def fnExactIsValidFrameUptoRow : OpenClaim := { program := "ytjmcfnfhohihpaa", sum := "2888314eb8b7fa7ffa6d1a9f9bdd47307a0a47f222168498f1b14238bba03570", func := "loop.example/g00875/laws.FnExactIsValidFrame", spec := "fnExactIsValidFrame", apart := false, narrowed := true }
def FnExactIsValidFrameUptoSaid : Prop := fnExactIsValidFrameUptoRow.holds Try.pinned (OpenSpec.upto fnExactIsValidFrameSpec)

/-- 'laws.FnExactLetterOf', WHERE WHAT IT READS IS OF BULK AT MOST 1048576: true; the input reads as it did. -/
def fnExactLetterOfUptoRow : OpenClaim := { program := "ytjmcfnfhohihpaa", sum := "2888314eb8b7fa7ffa6d1a9f9bdd47307a0a47f222168498f1b14238bba03570", func := "loop.example/g00875/laws.FnExactLetterOf", spec := "fnExactLetterOf", apart := false, narrowed := true }
def FnExactLetterOfUptoSaid : Prop := fnExactLetterOfUptoRow.holds Try.pinned (OpenSpec.upto fnExactLetterOfSpec)

/-- 'laws.FnExactLetterCode', WHERE WHAT IT READS IS OF BULK AT MOST 1048576: true; the input reads as it did. -/
def fnExactLetterCodeUptoRow : OpenClaim := { program := "ytjmcfnfhohihpaa", sum := "2888314eb8b7fa7ffa6d1a9f9bdd47307a0a47f222168498f1b14238bba03570", func := "loop.example/g00875/laws.FnExactLetterCode", spec := "fnExactLetterCode", apart := false, narrowed := true }
def FnExactLetterCodeUptoSaid : Prop := fnExactLetterCodeUptoRow.holds Try.pinned (OpenSpec.upto fnExactLetterCodeSpec)

end Rows
end Go.Proofs.Ytjmcfnfhohihpaa
