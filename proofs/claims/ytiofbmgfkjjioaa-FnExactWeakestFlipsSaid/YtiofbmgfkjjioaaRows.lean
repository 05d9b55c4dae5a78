/-
  No cell of these rows narrows 'for every input' (looked for: loops, veiled, ifaces, maps, wideKeys, modest, calm, conditions, laid).
  DERIVED. THE GIVEN ROWS OF THIS SEAT. 12 by the template 'for every input the law returns true; each argument reads behind the call as it read before'; 0 by the template 'total and deterministic' (their statements: YtiofbmgfkjjioaaTotals.lean).
  GIVEN WITH THE SEED: the statements are not yours to turn. If you find one false, say at which input.
  Laid BY PROGRAM, IN A SANDBOX (cutbox-rows.mjs): the forced cells as the released guide's own fill.sh prints them over the translation 64c259b0bcf386bb… (all of the seat's roots in one cut). By AI agents, Wed Nov 11 2026. No macro, syntax, notation, axiom, sorry.
-/
import Derived.Test.YtiofbmgfkjjioaaChecked
import GoSem.Claim
import GoSem.ClaimJoined
import GoSem.ClaimMapViews
import Derived.JoinedTies
import Derived.KernelRfl
namespace Go.Proofs.Ytiofbmgfkjjioaa
/- THE CELL 'sum', in the pinned program and in every row, IS THE sha256 OF THE DUMP (.gsa) THAT YtiofbmgfkjjioaaProg.lean LOADS. Nothing in Lean hashes anything: it is a label: what it is worth is what the hold of that sum in a sandbox is worth. -/
noncomputable def Try.pinned : Pinned := { name := "ytiofbmgfkjjioaa", sum := "64c259b0bcf386bb564bf1827ca1e6331ebd173d067fee2889aa4bd9d5f3a9d5", checked := Try.checked }
namespace Rows
def none {H : Type} : Left H := { results := [], args := [] }

/-- 'laws.FnExactParityOf': WHATEVER THE INPUT: true; the input reads as it did. -/
def fnExactParityOfSpec : ChangeSpec := { name := "fnExactParityOf", fn := fun _ => fun
  | [d] => { results := [.lit (.bool true)], args := [d] }
  | _ => none }
def fnExactParityOfRow : OpenClaim := { program := "ytiofbmgfkjjioaa", sum := "64c259b0bcf386bb564bf1827ca1e6331ebd173d067fee2889aa4bd9d5f3a9d5", func := "loop.example/g00875/laws.FnExactParityOf", spec := "fnExactParityOf", apart := false }
def FnExactParityOfSaid : Prop := fnExactParityOfRow.holds Try.pinned (OpenSpec.ofChange fnExactParityOfSpec)

/-- ITS FALSE NEIGHBOUR: 'it returns false'. Refute it at one input. -/
def fnExactParityOfWrong : ChangeSpec := { name := "fnExactParityOf", fn := fun _ => fun
  | [d] => { results := [.lit (.bool false)], args := [d] }
  | _ => none }
def FnExactParityOfWrongFalsely : Prop := fnExactParityOfRow.holds Try.pinned (OpenSpec.ofChange fnExactParityOfWrong)

/-- 'laws.FnExactAddParity': WHATEVER THE INPUT: true; the input reads as it did. -/
def fnExactAddParitySpec : ChangeSpec := { name := "fnExactAddParity", fn := fun _ => fun
  | [d] => { results := [.lit (.bool true)], args := [d] }
  | _ => none }
def fnExactAddParityRow : OpenClaim := { program := "ytiofbmgfkjjioaa", sum := "64c259b0bcf386bb564bf1827ca1e6331ebd173d067fee2889aa4bd9d5f3a9d5", func := "loop.example/g00875/laws.FnExactAddParity", spec := "fnExactAddParity", apart := false }
def FnExactAddParitySaid : Prop := fnExactAddParityRow.holds Try.pinned (OpenSpec.ofChange fnExactAddParitySpec)

/-- ITS FALSE NEIGHBOUR: 'it returns false'. Refute it at one input. -/
def fnExactAddParityWrong : ChangeSpec := { name := "fnExactAddParity", fn := fun _ => fun
  | [d] => { results := [.lit (.bool false)], args := [d] }
  | _ => none }
def FnExactAddParityWrongFalsely : Prop := fnExactAddParityRow.holds Try.pinned (OpenSpec.ofChange fnExactAddParityWrong)

/-- 'laws.FnExactSyndromeOf': WHATEVER THE INPUT: true; the input reads as it did. -/
def fnExactSyndromeOfSpec : ChangeSpec := { name := "fnExactSyndromeOf", fn := fun _ => fun
  | [d] => { results := [.lit (.bool true)], args := [d] }
  | _ => none }
def fnExactSyndromeOfRow : OpenClaim := { program := "ytiofbmgfkjjioaa", sum := "64c259b0bcf386bb564bf1827ca1e6331ebd173d067fee2889aa4bd9d5f3a9d5", func := "loop.example/g00875/laws.FnExactSyndromeOf", spec := "fnExactSyndromeOf", apart := false }
def FnExactSyndromeOfSaid : Prop := fnExactSyndromeOfRow.holds Try.pinned (OpenSpec.ofChange fnExactSyndromeOfSpec)

/-- ITS FALSE NEIGHBOUR: 'it returns false'. Refute it at one input. -/
def fnExactSyndromeOfWrong : ChangeSpec := { name := "fnExactSyndromeOf", fn := fun _ => fun
  | [d] => { results := [.lit (.bool false)], args := [d] }
  | _ => none }
def FnExactSyndromeOfWrongFalsely : Prop := fnExactSyndromeOfRow.holds Try.pinned (OpenSpec.ofChange fnExactSyndromeOfWrong)

/-- 'laws.FnExactPatternOf': WHATEVER THE INPUT: true; the input reads as it did. -/
def fnExactPatternOfSpec : ChangeSpec := { name := "fnExactPatternOf", fn := fun _ => fun
  | [d1, d2] => { results := [.lit (.bool true)], args := [d1, d2] }
  | _ => none }
def fnExactPatternOfRow : OpenClaim := { program := "ytiofbmgfkjjioaa", sum := "64c259b0bcf386bb564bf1827ca1e6331ebd173d067fee2889aa4bd9d5f3a9d5", func := "loop.example/g00875/laws.FnExactPatternOf", spec := "fnExactPatternOf", apart := false }
def FnExactPatternOfSaid : Prop := fnExactPatternOfRow.holds Try.pinned (OpenSpec.ofChange fnExactPatternOfSpec)

/-- ITS FALSE NEIGHBOUR: 'it returns false'. Refute it at one input. -/
def fnExactPatternOfWrong : ChangeSpec := { name := "fnExactPatternOf", fn := fun _ => fun
  | [d1, d2] => { results := [.lit (.bool false)], args := [d1, d2] }
  | _ => none }
def FnExactPatternOfWrongFalsely : Prop := fnExactPatternOfRow.holds Try.pinned (OpenSpec.ofChange fnExactPatternOfWrong)

/-- 'laws.FnExactIsSound': WHATEVER THE INPUT: true; the input reads as it did. -/
def fnExactIsSoundSpec : ChangeSpec := { name := "fnExactIsSound", fn := fun _ => fun
  | [d] => { results := [.lit (.bool true)], args := [d] }
  | _ => none }
def fnExactIsSoundRow : OpenClaim := { program := "ytiofbmgfkjjioaa", sum := "64c259b0bcf386bb564bf1827ca1e6331ebd173d067fee2889aa4bd9d5f3a9d5", func := "loop.example/g00875/laws.FnExactIsSound", spec := "fnExactIsSound", apart := false }
def FnExactIsSoundSaid : Prop := fnExactIsSoundRow.holds Try.pinned (OpenSpec.ofChange fnExactIsSoundSpec)

/-- ITS FALSE NEIGHBOUR: 'it returns false'. Refute it at one input. -/
def fnExactIsSoundWrong : ChangeSpec := { name := "fnExactIsSound", fn := fun _ => fun
  | [d] => { results := [.lit (.bool false)], args := [d] }
  | _ => none }
def FnExactIsSoundWrongFalsely : Prop := fnExactIsSoundRow.holds Try.pinned (OpenSpec.ofChange fnExactIsSoundWrong)

/-- 'laws.FnExactStripParity': WHATEVER THE INPUT: true; the input reads as it did. -/
def fnExactStripParitySpec : ChangeSpec := { name := "fnExactStripParity", fn := fun _ => fun
  | [d] => { results := [.lit (.bool true)], args := [d] }
  | _ => none }
def fnExactStripParityRow : OpenClaim := { program := "ytiofbmgfkjjioaa", sum := "64c259b0bcf386bb564bf1827ca1e6331ebd173d067fee2889aa4bd9d5f3a9d5", func := "loop.example/g00875/laws.FnExactStripParity", spec := "fnExactStripParity", apart := false }
def FnExactStripParitySaid : Prop := fnExactStripParityRow.holds Try.pinned (OpenSpec.ofChange fnExactStripParitySpec)

/-- ITS FALSE NEIGHBOUR: 'it returns false'. Refute it at one input. -/
def fnExactStripParityWrong : ChangeSpec := { name := "fnExactStripParity", fn := fun _ => fun
  | [d] => { results := [.lit (.bool false)], args := [d] }
  | _ => none }
def FnExactStripParityWrongFalsely : Prop := fnExactStripParityRow.holds Try.pinned (OpenSpec.ofChange fnExactStripParityWrong)

/-- 'laws.FnExactRepairBit': WHATEVER THE INPUT: true; the input reads as it did. -/
def fnExactRepairBitSpec : ChangeSpec := { name := "fnExactRepairBit", fn := fun _ => fun
  | [d] => { results := [.lit (.bool true)], args := [d] }
  | _ => none }
def fnExactRepairBitRow : OpenClaim := { program := "ytiofbmgfkjjioaa", sum := "64c259b0bcf386bb564bf1827ca1e6331ebd173d067fee2889aa4bd9d5f3a9d5", func := "loop.example/g00875/laws.FnExactRepairBit", spec := "fnExactRepairBit", apart := false }
def FnExactRepairBitSaid : Prop := fnExactRepairBitRow.holds Try.pinned (OpenSpec.ofChange fnExactRepairBitSpec)

/-- ITS FALSE NEIGHBOUR: 'it returns false'. Refute it at one input. -/
def fnExactRepairBitWrong : ChangeSpec := { name := "fnExactRepairBit", fn := fun _ => fun
  | [d] => { results := [.lit (.bool false)], args := [d] }
  | _ => none }
def FnExactRepairBitWrongFalsely : Prop := fnExactRepairBitRow.holds Try.pinned (OpenSpec.ofChange fnExactRepairBitWrong)

/-- 'laws.FnExactWeakestFlips': WHATEVER THE INPUT: true; the input reads as it did. -/
def fnExactWeakestFlipsSpec : ChangeSpec := { name := "fnExactWeakestFlips", fn := fun _ => fun
  | [d] => { results := [.lit (.bool true)], args := [d] }
  | _ => none }
def fnExactWeakestFlipsRow : OpenClaim := { program := "ytiofbmgfkjjioaa", sum := "64c259b0bcf386bb564bf1827ca1e6331ebd173d067fee2889aa4bd9d5f3a9d5", func := "loop.example/g00875/laws.FnExactWeakestFlips", spec := "fnExactWeakestFlips", apart := false }
def FnExactWeakestFlipsSaid : Prop := fnExactWeakestFlipsRow.holds Try.pinned (OpenSpec.ofChange fnExactWeakestFlipsSpec)

/-- ITS FALSE NEIGHBOUR: 'it returns false'. Refute it at one input. -/
def fnExactWeakestFlipsWrong : ChangeSpec := { name := "fnExactWeakestFlips", fn := fun _ => fun
  | [d] => { results := [.lit (.bool false)], args := [d] }
  | _ => none }
def FnExactWeakestFlipsWrongFalsely : Prop := fnExactWeakestFlipsRow.holds Try.pinned (OpenSpec.ofChange fnExactWeakestFlipsWrong)

/-- 'laws.FnExactFrameDistance': WHATEVER THE INPUT: true; the input reads as it did. -/
def fnExactFrameDistanceSpec : ChangeSpec := { name := "fnExactFrameDistance", fn := fun _ => fun
  | [d1, d2] => { results := [.lit (.bool true)], args := [d1, d2] }
  | _ => none }
def fnExactFrameDistanceRow : OpenClaim := { program := "ytiofbmgfkjjioaa", sum := "64c259b0bcf386bb564bf1827ca1e6331ebd173d067fee2889aa4bd9d5f3a9d5", func := "loop.example/g00875/laws.FnExactFrameDistance", spec := "fnExactFrameDistance", apart := false }
def FnExactFrameDistanceSaid : Prop := fnExactFrameDistanceRow.holds Try.pinned (OpenSpec.ofChange fnExactFrameDistanceSpec)

/-- ITS FALSE NEIGHBOUR: 'it returns false'. Refute it at one input. -/
def fnExactFrameDistanceWrong : ChangeSpec := { name := "fnExactFrameDistance", fn := fun _ => fun
  | [d1, d2] => { results := [.lit (.bool false)], args := [d1, d2] }
  | _ => none }
def FnExactFrameDistanceWrongFalsely : Prop := fnExactFrameDistanceRow.holds Try.pinned (OpenSpec.ofChange fnExactFrameDistanceWrong)

/-- 'laws.FnExactEncodeFrame': WHATEVER THE INPUT: true; the input reads as it did. -/
def fnExactEncodeFrameSpec : ChangeSpec := { name := "fnExactEncodeFrame", fn := fun _ => fun
  | [d] => { results := [.lit (.bool true)], args := [d] }
  | _ => none }
def fnExactEncodeFrameRow : OpenClaim := { program := "ytiofbmgfkjjioaa", sum := "64c259b0bcf386bb564bf1827ca1e6331ebd173d067fee2889aa4bd9d5f3a9d5", func := "loop.example/g00875/laws.FnExactEncodeFrame", spec := "fnExactEncodeFrame", apart := false }
def FnExactEncodeFrameSaid : Prop := fnExactEncodeFrameRow.holds Try.pinned (OpenSpec.ofChange fnExactEncodeFrameSpec)

/-- ITS FALSE NEIGHBOUR: 'it returns false'. Refute it at one input. -/
def fnExactEncodeFrameWrong : ChangeSpec := { name := "fnExactEncodeFrame", fn := fun _ => fun
  | [d] => { results := [.lit (.bool false)], args := [d] }
  | _ => none }
def FnExactEncodeFrameWrongFalsely : Prop := fnExactEncodeFrameRow.holds Try.pinned (OpenSpec.ofChange fnExactEncodeFrameWrong)

/-- 'laws.FnExactDecodeFrame': WHATEVER THE INPUT: true; the input reads as it did. -/
def fnExactDecodeFrameSpec : ChangeSpec := { name := "fnExactDecodeFrame", fn := fun _ => fun
  | [d] => { results := [.lit (.bool true)], args := [d] }
  | _ => none }
def fnExactDecodeFrameRow : OpenClaim := { program := "ytiofbmgfkjjioaa", sum := "64c259b0bcf386bb564bf1827ca1e6331ebd173d067fee2889aa4bd9d5f3a9d5", func := "loop.example/g00875/laws.FnExactDecodeFrame", spec := "fnExactDecodeFrame", apart := false }
def FnExactDecodeFrameSaid : Prop := fnExactDecodeFrameRow.holds Try.pinned (OpenSpec.ofChange fnExactDecodeFrameSpec)

/-- ITS FALSE NEIGHBOUR: 'it returns false'. Refute it at one input. -/
def fnExactDecodeFrameWrong : ChangeSpec := { name := "fnExactDecodeFrame", fn := fun _ => fun
  | [d] => { results := [.lit (.bool false)], args := [d] }
  | _ => none }
def FnExactDecodeFrameWrongFalsely : Prop := fnExactDecodeFrameRow.holds Try.pinned (OpenSpec.ofChange fnExactDecodeFrameWrong)

/-- 'laws.FnExactRepairFrame': WHATEVER THE INPUT: true; the input reads as it did. -/
def fnExactRepairFrameSpec : ChangeSpec := { name := "fnExactRepairFrame", fn := fun _ => fun
  | [d] => { results := [.lit (.bool true)], args := [d] }
  | _ => none }
def fnExactRepairFrameRow : OpenClaim := { program := "ytiofbmgfkjjioaa", sum := "64c259b0bcf386bb564bf1827ca1e6331ebd173d067fee2889aa4bd9d5f3a9d5", func := "loop.example/g00875/laws.FnExactRepairFrame", spec := "fnExactRepairFrame", apart := false }
def FnExactRepairFrameSaid : Prop := fnExactRepairFrameRow.holds Try.pinned (OpenSpec.ofChange fnExactRepairFrameSpec)

/-- ITS FALSE NEIGHBOUR: 'it returns false'. Refute it at one input. -/
def fnExactRepairFrameWrong : ChangeSpec := { name := "fnExactRepairFrame", fn := fun _ => fun
  | [d] => { results := [.lit (.bool false)], args := [d] }
  | _ => none }
def FnExactRepairFrameWrongFalsely : Prop := fnExactRepairFrameRow.holds Try.pinned (OpenSpec.ofChange fnExactRepairFrameWrong)

/- THE SECOND FORM. 'bulk': how many values and letters a reading holds, each counted each time it is reached (what is shared counts as often as it is met; a slice's spare places count too). A statement '..UptoSaid' is the law's where the arguments, and the package variables that the reading takes, are together of bulk at most 1048576: NARROWER than '..Said'. Prove '..Said' where nothing that the law and all that it calls make is longer than what came in: it says more and counts as full. Else prove '..UptoSaid'. A law counts once. -/
mutual
def uptoBulk {H : Type} : DataW H → Nat
  | .lit (.string bytes) => bytes.length + 1
  | .lit _ => 1
  | .nil => 1
  | .ptr d => uptoBulk d + 1
  | .slice elems spare => uptoBulkAll elems + uptoBulkAll spare + 1
  | .agg parts => uptoBulkAll parts + 1
  | .iface _ d => uptoBulk d + 1
  | .map entries => uptoBulkEntries entries + 1
  | .held _ => 1
def uptoBulkAll {H : Type} : List (DataW H) → Nat
  | [] => 0
  | d :: r => uptoBulk d + uptoBulkAll r
def uptoBulkEntries {H : Type} : List (Lit × DataW H) → Nat
  | [] => 0
  | x :: r => uptoBulkEntry x + uptoBulkEntries r
def uptoBulkEntry {H : Type} : Lit × DataW H → Nat
  | (.string bytes, d) => bytes.length + uptoBulk d + 1
  | (_, d) => uptoBulk d + 1
 end
def uptoSmall : (H : Type) → List (DataW H) → Bool := fun _ ds => decide (uptoBulkAll ds ≤ 1048576)
def OpenSpec.upto (s : _root_.Go.ChangeSpec) : _root_.Go.OpenSpec := { _root_.Go.OpenSpec.ofChange s with cond := some uptoSmall }

/-- 'laws.FnExactParityOf', WHERE WHAT IT READS IS OF BULK AT MOST 1048576: true; the input reads as it did. -/
def fnExactParityOfUptoRow : OpenClaim := { program := "ytiofbmgfkjjioaa", sum := "64c259b0bcf386bb564bf1827ca1e6331ebd173d067fee2889aa4bd9d5f3a9d5", func := "loop.example/g00875/laws.FnExactParityOf", spec := "fnExactParityOf", apart := false, narrowed := true }
def FnExactParityOfUptoSaid : Prop := fnExactParityOfUptoRow.holds Try.pinned (OpenSpec.upto fnExactParityOfSpec)

/-- 'laws.FnExactAddParity', WHERE WHAT IT READS IS OF BULK AT MOST 1048576: true; the input reads as it did. -/
def fnExactAddParityUptoRow : OpenClaim := { program := "ytiofbmgfkjjioaa", sum := "64c259b0bcf386bb564bf1827ca1e6331ebd173d067fee2889aa4bd9d5f3a9d5", func := "loop.example/g00875/laws.FnExactAddParity", spec := "fnExactAddParity", apart := false, narrowed := true }
def FnExactAddParityUptoSaid : Prop := fnExactAddParityUptoRow.holds Try.pinned (OpenSpec.upto fnExactAddParitySpec)

/-- 'laws.FnExactSyndromeOf', WHERE WHAT IT READS IS OF BULK AT MOST 1048576: true; the input reads as it did. -/
def fnExactSyndromeOfUptoRow : OpenClaim := { program := "ytiofbmgfkjjioaa", sum := "64c259b0bcf386bb564bf1827ca1e6331ebd173d067fee2889aa4bd9d5f3a9d5", func := "loop.example/g00875/laws.FnExactSyndromeOf", spec := "fnExactSyndromeOf", apart := false, narrowed := true }
def FnExactSyndromeOfUptoSaid : Prop := fnExactSyndromeOfUptoRow.holds Try.pinned (OpenSpec.upto fnExactSyndromeOfSpec)

/-- 'laws.FnExactPatternOf', WHERE WHAT IT READS IS OF BULK AT MOST 1048576: true; the input reads as it did. -/
def fnExactPatternOfUptoRow : OpenClaim := { program := "ytiofbmgfkjjioaa", sum := "64c259b0bcf386bb564bf1827ca1e6331ebd173d067fee2889aa4bd9d5f3a9d5", func := "loop.example/g00875/laws.FnExactPatternOf", spec := "fnExactPatternOf", apart := false, narrowed := true }
def FnExactPatternOfUptoSaid : Prop := fnExactPatternOfUptoRow.holds Try.pinned (OpenSpec.upto fnExactPatternOfSpec)

/-- 'laws.FnExactIsSound', WHERE WHAT IT READS IS OF BULK AT MOST 1048576: true; the input reads as it did. -/
def fnExactIsSoundUptoRow : OpenClaim := { program := "ytiofbmgfkjjioaa", sum := "64c259b0bcf386bb564bf1827ca1e6331ebd173d067fee2889aa4bd9d5f3a9d5", func := "loop.example/g00875/laws.FnExactIsSound", spec := "fnExactIsSound", apart := false, narrowed := true }
def FnExactIsSoundUptoSaid : Prop := fnExactIsSoundUptoRow.holds Try.pinned (OpenSpec.upto fnExactIsSoundSpec)

/-- 'laws.FnExactStripParity', WHERE WHAT IT READS IS OF BULK AT MOST 1048576: true; the input reads as it did. -/
def fnExactStripParityUptoRow : OpenClaim := { program := "ytiofbmgfkjjioaa", sum := "64c259b0bcf386bb564bf1827ca1e6331ebd173d067fee2889aa4bd9d5f3a9d5", func := "loop.example/g00875/laws.FnExactStripParity", spec := "fnExactStripParity", apart := false, narrowed := true }
def FnExactStripParityUptoSaid : Prop := fnExactStripParityUptoRow.holds Try.pinned (OpenSpec.upto fnExactStripParitySpec)

/-- 'laws.FnExactRepairBit', WHERE WHAT IT READS IS OF BULK AT MOST 1048576: true; the input reads as it did. -/
def fnExactRepairBitUptoRow : OpenClaim := { program := "ytiofbmgfkjjioaa", sum := "64c259b0bcf386bb564bf1827ca1e6331ebd173d067fee2889aa4bd9d5f3a9d5", func := "loop.example/g00875/laws.FnExactRepairBit", spec := "fnExactRepairBit", apart := false, narrowed := true }
def FnExactRepairBitUptoSaid : Prop := fnExactRepairBitUptoRow.holds Try.pinned (OpenSpec.upto fnExactRepairBitSpec)

/-- 'laws.FnExactWeakestFlips', WHERE WHAT IT READS IS OF BULK AT MOST 1048576: true; the input reads as it did. -/
def fnExactWeakestFlipsUptoRow : OpenClaim := { program := "ytiofbmgfkjjioaa", sum := "64c259b0bcf386bb564bf1827ca1e6331ebd173d067fee2889aa4bd9d5f3a9d5", func := "loop.example/g00875/laws.FnExactWeakestFlips", spec := "fnExactWeakestFlips", apart := false, narrowed := true }
def FnExactWeakestFlipsUptoSaid : Prop := fnExactWeakestFlipsUptoRow.holds Try.pinned (OpenSpec.upto fnExactWeakestFlipsSpec)

/-- 'laws.FnExactFrameDistance', WHERE WHAT IT READS IS OF BULK AT MOST 1048576: true; the input reads as it did. -/
def fnExactFrameDistanceUptoRow : OpenClaim := { program := "ytiofbmgfkjjioaa", sum := "64c259b0bcf386bb564bf1827ca1e6331ebd173d067fee2889aa4bd9d5f3a9d5", func := "loop.example/g00875/laws.FnExactFrameDistance", spec := "fnExactFrameDistance", apart := false, narrowed := true }
def FnExactFrameDistanceUptoSaid : Prop := fnExactFrameDistanceUptoRow.holds Try.pinned (OpenSpec.upto fnExactFrameDistanceSpec)

/-- 'laws.FnExactEncodeFrame', WHERE WHAT IT READS IS OF BULK AT MOST 1048576: true; the input reads as it did. -/
def fnExactEncodeFrameUptoRow : OpenClaim := { program := "ytiofbmgfkjjioaa", sum := "64c259b0bcf386bb564bf1827ca1e6331ebd173d067fee2889aa4bd9d5f3a9d5", func := "loop.example/g00875/laws.FnExactEncodeFrame", spec := "fnExactEncodeFrame", apart := false, narrowed := true }
def FnExactEncodeFrameUptoSaid : Prop := fnExactEncodeFrameUptoRow.holds Try.pinned (OpenSpec.upto fnExactEncodeFrameSpec)

/-- 'laws.FnExactDecodeFrame', WHERE WHAT IT READS IS OF BULK AT MOST 1048576: true; the input reads as it did. -/
def fnExactDecodeFrameUptoRow : OpenClaim := { program := "ytiofbmgfkjjioaa", sum := "64c259b0bcf386bb564bf1827ca1e6331ebd173d067fee2889aa4bd9d5f3a9d5", func := "loop.example/g00875/laws.FnExactDecodeFrame", spec := "fnExactDecodeFrame", apart := false, narrowed := true }
def FnExactDecodeFrameUptoSaid : Prop := fnExactDecodeFrameUptoRow.holds Try.pinned (OpenSpec.upto fnExactDecodeFrameSpec)

/-- 'laws.FnExactRepairFrame', WHERE WHAT IT READS IS OF BULK AT MOST 1048576: true; the input reads as it did. -/
def fnExactRepairFrameUptoRow : OpenClaim := { program := "ytiofbmgfkjjioaa", sum := "64c259b0bcf386bb564bf1827ca1e6331ebd173d067fee2889aa4bd9d5f3a9d5", func := "loop.example/g00875/laws.FnExactRepairFrame", spec := "fnExactRepairFrame", apart := false, narrowed := true }
def FnExactRepairFrameUptoSaid : Prop := fnExactRepairFrameUptoRow.holds Try.pinned (OpenSpec.upto fnExactRepairFrameSpec)

end Rows
end Go.Proofs.Ytiofbmgfkjjioaa
