/-
  No cell of these rows narrows 'for every input' (looked for: loops, veiled, ifaces, maps, wideKeys, modest, calm, conditions, laid).
  DERIVED. THE GIVEN ROWS OF THIS SEAT. 13 by the template 'for every input the law returns true; each argument reads behind the call as it read before'; 0 by the template 'total and deterministic' (their statements: YtndfeihlmhhgpaaTotals.lean).
  GIVEN WITH THE SEED: the statements are not yours to turn. If you find one false, say at which input.
  Laid BY PROGRAM, IN A SANDBOX (cutbox-rows.mjs): the forced cells as the released guide's own fill.sh prints them over the translation 9c2810da6d634f21… (all of the seat's roots in one cut). By AI agents, Wed Nov 11 2026. No macro, syntax, notation, axiom, sorry.
-/
import Derived.Test.YtndfeihlmhhgpaaChecked
import GoSem.Claim
import GoSem.ClaimJoined
import GoSem.ClaimMapViews
import Derived.JoinedTies
import Derived.KernelRfl
namespace Go.Proofs.Ytndfeihlmhhgpaa
/- THE CELL 'sum', in the pinned program and in every row, IS THE sha256 OF THE DUMP (.gsa) THAT YtndfeihlmhhgpaaProg.lean LOADS. Nothing in Lean hashes anything: it is a label: what it is worth is what the hold of that sum in a sandbox is worth. -/
noncomputable def Try.pinned : Pinned := { name := "ytndfeihlmhhgpaa", sum := "9c2810da6d634f21e54b3cebd1789b9c62cadb92eb3945f2f13cccb2f0d3b249", checked := Try.checked }
namespace Rows
def none {H : Type} : Left H := { results := [], args := [] }

/-- 'sacristanlaw25.RingWhole': WHATEVER THE INPUT: true; the input reads as it did. -/
def ringWholeSpec : ChangeSpec := { name := "ringWhole", fn := fun _ => fun
  | [d1, d2, d3, d4, d5, d6] => { results := [.lit (.bool true)], args := [d1, d2, d3, d4, d5, d6] }
  | _ => none }
def ringWholeRow : OpenClaim := { program := "ytndfeihlmhhgpaa", sum := "9c2810da6d634f21e54b3cebd1789b9c62cadb92eb3945f2f13cccb2f0d3b249", func := "sacristan/sacristanlaw25.RingWhole", spec := "ringWhole", unfollowed := true, recurses := true, apart := false }
def RingWholeSaid : Prop := ringWholeRow.holds Try.pinned (OpenSpec.ofChange ringWholeSpec)

/-- ITS FALSE NEIGHBOUR: 'it returns false'. Refute it at one input. -/
def ringWholeWrong : ChangeSpec := { name := "ringWhole", fn := fun _ => fun
  | [d1, d2, d3, d4, d5, d6] => { results := [.lit (.bool false)], args := [d1, d2, d3, d4, d5, d6] }
  | _ => none }
def RingWholeWrongFalsely : Prop := ringWholeRow.holds Try.pinned (OpenSpec.ofChange ringWholeWrong)

/-- 'sacristanlaw25.RingSynced': WHATEVER THE INPUT: true; the input reads as it did. -/
def ringSyncedSpec : ChangeSpec := { name := "ringSynced", fn := fun _ => fun
  | [d1, d2, d3, d4, d5, d6] => { results := [.lit (.bool true)], args := [d1, d2, d3, d4, d5, d6] }
  | _ => none }
def ringSyncedRow : OpenClaim := { program := "ytndfeihlmhhgpaa", sum := "9c2810da6d634f21e54b3cebd1789b9c62cadb92eb3945f2f13cccb2f0d3b249", func := "sacristan/sacristanlaw25.RingSynced", spec := "ringSynced", unfollowed := true, recurses := true, apart := false }
def RingSyncedSaid : Prop := ringSyncedRow.holds Try.pinned (OpenSpec.ofChange ringSyncedSpec)

/-- ITS FALSE NEIGHBOUR: 'it returns false'. Refute it at one input. -/
def ringSyncedWrong : ChangeSpec := { name := "ringSynced", fn := fun _ => fun
  | [d1, d2, d3, d4, d5, d6] => { results := [.lit (.bool false)], args := [d1, d2, d3, d4, d5, d6] }
  | _ => none }
def RingSyncedWrongFalsely : Prop := ringSyncedRow.holds Try.pinned (OpenSpec.ofChange ringSyncedWrong)

/-- 'sacristanlaw25.RingBounds': WHATEVER THE INPUT: true; the input reads as it did. -/
def ringBoundsSpec : ChangeSpec := { name := "ringBounds", fn := fun _ => fun
  | [d1, d2, d3] => { results := [.lit (.bool true)], args := [d1, d2, d3] }
  | _ => none }
def ringBoundsRow : OpenClaim := { program := "ytndfeihlmhhgpaa", sum := "9c2810da6d634f21e54b3cebd1789b9c62cadb92eb3945f2f13cccb2f0d3b249", func := "sacristan/sacristanlaw25.RingBounds", spec := "ringBounds", unfollowed := true, recurses := true, apart := false }
def RingBoundsSaid : Prop := ringBoundsRow.holds Try.pinned (OpenSpec.ofChange ringBoundsSpec)

/-- ITS FALSE NEIGHBOUR: 'it returns false'. Refute it at one input. -/
def ringBoundsWrong : ChangeSpec := { name := "ringBounds", fn := fun _ => fun
  | [d1, d2, d3] => { results := [.lit (.bool false)], args := [d1, d2, d3] }
  | _ => none }
def RingBoundsWrongFalsely : Prop := ringBoundsRow.holds Try.pinned (OpenSpec.ofChange ringBoundsWrong)

/-- 'sacristanlaw25.RingNumbers': WHATEVER THE INPUT: true; the input reads as it did. -/
def ringNumbersSpec : ChangeSpec := { name := "ringNumbers", fn := fun _ => fun
  | [d1, d2, d3] => { results := [.lit (.bool true)], args := [d1, d2, d3] }
  | _ => none }
def ringNumbersRow : OpenClaim := { program := "ytndfeihlmhhgpaa", sum := "9c2810da6d634f21e54b3cebd1789b9c62cadb92eb3945f2f13cccb2f0d3b249", func := "sacristan/sacristanlaw25.RingNumbers", spec := "ringNumbers", unfollowed := true, recurses := true, apart := false }
def RingNumbersSaid : Prop := ringNumbersRow.holds Try.pinned (OpenSpec.ofChange ringNumbersSpec)

/-- ITS FALSE NEIGHBOUR: 'it returns false'. Refute it at one input. -/
def ringNumbersWrong : ChangeSpec := { name := "ringNumbers", fn := fun _ => fun
  | [d1, d2, d3] => { results := [.lit (.bool false)], args := [d1, d2, d3] }
  | _ => none }
def RingNumbersWrongFalsely : Prop := ringNumbersRow.holds Try.pinned (OpenSpec.ofChange ringNumbersWrong)

/-- 'sacristanlaw25.RingExamples': WHATEVER THE INPUT: true; the input reads as it did. -/
def ringExamplesSpec : ChangeSpec := { name := "ringExamples", fn := fun _ => fun
  | [] => { results := [.lit (.bool true)], args := [] }
  | _ => none }
def ringExamplesRow : OpenClaim := { program := "ytndfeihlmhhgpaa", sum := "9c2810da6d634f21e54b3cebd1789b9c62cadb92eb3945f2f13cccb2f0d3b249", func := "sacristan/sacristanlaw25.RingExamples", spec := "ringExamples", unfollowed := true, recurses := true, apart := false }
def RingExamplesSaid : Prop := ringExamplesRow.holds Try.pinned (OpenSpec.ofChange ringExamplesSpec)

/-- ITS FALSE NEIGHBOUR: 'it returns false'. Refute it at one input. -/
def ringExamplesWrong : ChangeSpec := { name := "ringExamples", fn := fun _ => fun
  | [] => { results := [.lit (.bool false)], args := [] }
  | _ => none }
def RingExamplesWrongFalsely : Prop := ringExamplesRow.holds Try.pinned (OpenSpec.ofChange ringExamplesWrong)

/-- 'sacristanlaw25.RingTurns': WHATEVER THE INPUT: true; the input reads as it did. -/
def ringTurnsSpec : ChangeSpec := { name := "ringTurns", fn := fun _ => fun
  | [d1, d2, d3] => { results := [.lit (.bool true)], args := [d1, d2, d3] }
  | _ => none }
def ringTurnsRow : OpenClaim := { program := "ytndfeihlmhhgpaa", sum := "9c2810da6d634f21e54b3cebd1789b9c62cadb92eb3945f2f13cccb2f0d3b249", func := "sacristan/sacristanlaw25.RingTurns", spec := "ringTurns", unfollowed := true, recurses := true, apart := false }
def RingTurnsSaid : Prop := ringTurnsRow.holds Try.pinned (OpenSpec.ofChange ringTurnsSpec)

/-- ITS FALSE NEIGHBOUR: 'it returns false'. Refute it at one input. -/
def ringTurnsWrong : ChangeSpec := { name := "ringTurns", fn := fun _ => fun
  | [d1, d2, d3] => { results := [.lit (.bool false)], args := [d1, d2, d3] }
  | _ => none }
def RingTurnsWrongFalsely : Prop := ringTurnsRow.holds Try.pinned (OpenSpec.ofChange ringTurnsWrong)

/-- 'sacristanlaw24.BlockCodes': WHATEVER THE INPUT: true; the input reads as it did. -/
def blockCodesSpec : ChangeSpec := { name := "blockCodes", fn := fun _ => fun
  | [d1, d2] => { results := [.lit (.bool true)], args := [d1, d2] }
  | _ => none }
def blockCodesRow : OpenClaim := { program := "ytndfeihlmhhgpaa", sum := "9c2810da6d634f21e54b3cebd1789b9c62cadb92eb3945f2f13cccb2f0d3b249", func := "sacristan/sacristanlaw24.BlockCodes", spec := "blockCodes", inPlace := ["internal/abi.NoEscape", "internal/bytealg.MakeNoZero"], unfollowed := true, recurses := true, apart := false }
def BlockCodesSaid : Prop := blockCodesRow.holds Try.pinned (OpenSpec.ofChange blockCodesSpec)

/-- ITS FALSE NEIGHBOUR: 'it returns false'. Refute it at one input. -/
def blockCodesWrong : ChangeSpec := { name := "blockCodes", fn := fun _ => fun
  | [d1, d2] => { results := [.lit (.bool false)], args := [d1, d2] }
  | _ => none }
def BlockCodesWrongFalsely : Prop := blockCodesRow.holds Try.pinned (OpenSpec.ofChange blockCodesWrong)

/-- 'sacristanlaw24.BlockBack': WHATEVER THE INPUT: true; the input reads as it did. -/
def blockBackSpec : ChangeSpec := { name := "blockBack", fn := fun _ => fun
  | [d1, d2, d3] => { results := [.lit (.bool true)], args := [d1, d2, d3] }
  | _ => none }
def blockBackRow : OpenClaim := { program := "ytndfeihlmhhgpaa", sum := "9c2810da6d634f21e54b3cebd1789b9c62cadb92eb3945f2f13cccb2f0d3b249", func := "sacristan/sacristanlaw24.BlockBack", spec := "blockBack", inPlace := ["internal/abi.NoEscape", "internal/bytealg.MakeNoZero"], unfollowed := true, recurses := true, apart := false }
def BlockBackSaid : Prop := blockBackRow.holds Try.pinned (OpenSpec.ofChange blockBackSpec)

/-- ITS FALSE NEIGHBOUR: 'it returns false'. Refute it at one input. -/
def blockBackWrong : ChangeSpec := { name := "blockBack", fn := fun _ => fun
  | [d1, d2, d3] => { results := [.lit (.bool false)], args := [d1, d2, d3] }
  | _ => none }
def BlockBackWrongFalsely : Prop := blockBackRow.holds Try.pinned (OpenSpec.ofChange blockBackWrong)

/-- 'sacristanlaw24.BlockTorn': WHATEVER THE INPUT: true; the input reads as it did. -/
def blockTornSpec : ChangeSpec := { name := "blockTorn", fn := fun _ => fun
  | [d1, d2, d3, d4] => { results := [.lit (.bool true)], args := [d1, d2, d3, d4] }
  | _ => none }
def blockTornRow : OpenClaim := { program := "ytndfeihlmhhgpaa", sum := "9c2810da6d634f21e54b3cebd1789b9c62cadb92eb3945f2f13cccb2f0d3b249", func := "sacristan/sacristanlaw24.BlockTorn", spec := "blockTorn", inPlace := ["internal/abi.NoEscape", "internal/bytealg.MakeNoZero"], unfollowed := true, recurses := true, apart := false }
def BlockTornSaid : Prop := blockTornRow.holds Try.pinned (OpenSpec.ofChange blockTornSpec)

/-- ITS FALSE NEIGHBOUR: 'it returns false'. Refute it at one input. -/
def blockTornWrong : ChangeSpec := { name := "blockTorn", fn := fun _ => fun
  | [d1, d2, d3, d4] => { results := [.lit (.bool false)], args := [d1, d2, d3, d4] }
  | _ => none }
def BlockTornWrongFalsely : Prop := blockTornRow.holds Try.pinned (OpenSpec.ofChange blockTornWrong)

/-- 'sacristanlaw24.BlockBits': WHATEVER THE INPUT: true; the input reads as it did. -/
def blockBitsSpec : ChangeSpec := { name := "blockBits", fn := fun _ => fun
  | [d1, d2, d3] => { results := [.lit (.bool true)], args := [d1, d2, d3] }
  | _ => none }
def blockBitsRow : OpenClaim := { program := "ytndfeihlmhhgpaa", sum := "9c2810da6d634f21e54b3cebd1789b9c62cadb92eb3945f2f13cccb2f0d3b249", func := "sacristan/sacristanlaw24.BlockBits", spec := "blockBits", inPlace := ["internal/abi.NoEscape", "internal/bytealg.MakeNoZero"], unfollowed := true, recurses := true, apart := false }
def BlockBitsSaid : Prop := blockBitsRow.holds Try.pinned (OpenSpec.ofChange blockBitsSpec)

/-- ITS FALSE NEIGHBOUR: 'it returns false'. Refute it at one input. -/
def blockBitsWrong : ChangeSpec := { name := "blockBits", fn := fun _ => fun
  | [d1, d2, d3] => { results := [.lit (.bool false)], args := [d1, d2, d3] }
  | _ => none }
def BlockBitsWrongFalsely : Prop := blockBitsRow.holds Try.pinned (OpenSpec.ofChange blockBitsWrong)

/-- 'sacristanlaw24.BlockSplits': WHATEVER THE INPUT: true; the input reads as it did. -/
def blockSplitsSpec : ChangeSpec := { name := "blockSplits", fn := fun _ => fun
  | [d1, d2, d3, d4, d5] => { results := [.lit (.bool true)], args := [d1, d2, d3, d4, d5] }
  | _ => none }
def blockSplitsRow : OpenClaim := { program := "ytndfeihlmhhgpaa", sum := "9c2810da6d634f21e54b3cebd1789b9c62cadb92eb3945f2f13cccb2f0d3b249", func := "sacristan/sacristanlaw24.BlockSplits", spec := "blockSplits", inPlace := ["internal/abi.NoEscape", "internal/bytealg.MakeNoZero"], unfollowed := true, recurses := true, apart := false }
def BlockSplitsSaid : Prop := blockSplitsRow.holds Try.pinned (OpenSpec.ofChange blockSplitsSpec)

/-- ITS FALSE NEIGHBOUR: 'it returns false'. Refute it at one input. -/
def blockSplitsWrong : ChangeSpec := { name := "blockSplits", fn := fun _ => fun
  | [d1, d2, d3, d4, d5] => { results := [.lit (.bool false)], args := [d1, d2, d3, d4, d5] }
  | _ => none }
def BlockSplitsWrongFalsely : Prop := blockSplitsRow.holds Try.pinned (OpenSpec.ofChange blockSplitsWrong)

/-- 'sacristanlaw24.BlockExamples': WHATEVER THE INPUT: true; the input reads as it did. -/
def blockExamplesSpec : ChangeSpec := { name := "blockExamples", fn := fun _ => fun
  | [] => { results := [.lit (.bool true)], args := [] }
  | _ => none }
def blockExamplesRow : OpenClaim := { program := "ytndfeihlmhhgpaa", sum := "9c2810da6d634f21e54b3cebd1789b9c62cadb92eb3945f2f13cccb2f0d3b249", func := "sacristan/sacristanlaw24.BlockExamples", spec := "blockExamples", inPlace := ["internal/abi.NoEscape", "internal/bytealg.MakeNoZero"], unfollowed := true, recurses := true, apart := false }
def BlockExamplesSaid : Prop := blockExamplesRow.holds Try.pinned (OpenSpec.ofChange blockExamplesSpec)

/-- ITS FALSE NEIGHBOUR: 'it returns false'. Refute it at one input. -/
def blockExamplesWrong : ChangeSpec := { name := "blockExamples", fn := fun _ => fun
  | [] => { results := [.lit (.bool false)], args := [] }
  | _ => none }
def BlockExamplesWrongFalsely : Prop := blockExamplesRow.holds Try.pinned (OpenSpec.ofChange blockExamplesWrong)

/-- 'sacristanlaw24.BlockPieces': WHATEVER THE INPUT: true; the input reads as it did. -/
def blockPiecesSpec : ChangeSpec := { name := "blockPieces", fn := fun _ => fun
  | [d1, d2, d3, d4, d5] => { results := [.lit (.bool true)], args := [d1, d2, d3, d4, d5] }
  | _ => none }
def blockPiecesRow : OpenClaim := { program := "ytndfeihlmhhgpaa", sum := "9c2810da6d634f21e54b3cebd1789b9c62cadb92eb3945f2f13cccb2f0d3b249", func := "sacristan/sacristanlaw24.BlockPieces", spec := "blockPieces", inPlace := ["internal/abi.NoEscape", "internal/bytealg.MakeNoZero"], unfollowed := true, recurses := true, apart := false }
def BlockPiecesSaid : Prop := blockPiecesRow.holds Try.pinned (OpenSpec.ofChange blockPiecesSpec)

/-- ITS FALSE NEIGHBOUR: 'it returns false'. Refute it at one input. -/
def blockPiecesWrong : ChangeSpec := { name := "blockPieces", fn := fun _ => fun
  | [d1, d2, d3, d4, d5] => { results := [.lit (.bool false)], args := [d1, d2, d3, d4, d5] }
  | _ => none }
def BlockPiecesWrongFalsely : Prop := blockPiecesRow.holds Try.pinned (OpenSpec.ofChange blockPiecesWrong)

/- THE SECOND FORM. 'bulk': how many values and letters a reading holds, each counted each time it is reached (what is shared counts as often as it is met; a slice's spare places count too). A statement '..UptoSaid' is the law's where the arguments, and the package variables that the reading takes, are together of bulk at most 1048576: NARROWER than '..Said'. Prove '..Said' where nothing that the law and all that it calls make is longer than what came in: it says more and counts as full. Else prove '..UptoSaid'. A law counts once. -/
mutual
def uptoBulk {H : Type} : DataW H → Nat
  | .lit (.string bytes) => bytes.length + 1
  | .lit _ => 1
  | .nil => 1
  | .ptr d => uptoBulk d + 1
  | .slice elems spare => uptoBulkAll elems + uptoBulkAll spare + 1
  | .agg parts => uptoBulkAll parts + 1
  | .iface _ d => uptoBulk d + 1
  | .map entries => uptoBulkEntries entries + 1
  | .held _ => 1
def uptoBulkAll {H : Type} : List (DataW H) → Nat
  | [] => 0
  | d :: r => uptoBulk d + uptoBulkAll r
def uptoBulkEntries {H : Type} : List (Lit × DataW H) → Nat
  | [] => 0
  | x :: r => uptoBulkEntry x + uptoBulkEntries r
def uptoBulkEntry {H : Type} : Lit × DataW H → Nat
  | (.string bytes, d) => bytes.length + uptoBulk d + 1
  | (_, d) => uptoBulk d + 1
 end
def uptoSmall : (H : Type) → List (DataW H) → Bool := fun _ ds => decide (uptoBulkAll ds ≤ 1048576)
def OpenSpec.upto (s : _root_.Go.ChangeSpec) : _root_.Go.OpenSpec := { _root_.Go.OpenSpec.ofChange s with cond := some uptoSmall }

/-- 'sacristanlaw25.RingWhole', WHERE WHAT IT READS IS OF BULK AT MOST 1048576: true; the input reads as it did. -/
def ringWholeUptoRow : OpenClaim := { program := "ytndfeihlmhhgpaa", sum := "9c2810da6d634f21e54b3cebd1789b9c62cadb92eb3945f2f13cccb2f0d3b249", func := "sacristan/sacristanlaw25.RingWhole", spec := "ringWhole", unfollowed := true, recurses := true, apart := false, narrowed := true }
def RingWholeUptoSaid : Prop := ringWholeUptoRow.holds Try.pinned (OpenSpec.upto ringWholeSpec)

/-- 'sacristanlaw25.RingSynced', WHERE WHAT IT READS IS OF BULK AT MOST 1048576: true; the input reads as it did. -/
def ringSyncedUptoRow : OpenClaim := { program := "ytndfeihlmhhgpaa", sum := "9c2810da6d634f21e54b3cebd1789b9c62cadb92eb3945f2f13cccb2f0d3b249", func := "sacristan/sacristanlaw25.RingSynced", spec := "ringSynced", unfollowed := true, recurses := true, apart := false, narrowed := true }
def RingSyncedUptoSaid : Prop := ringSyncedUptoRow.holds Try.pinned (OpenSpec.upto ringSyncedSpec)

/-- 'sacristanlaw25.RingBounds', WHERE WHAT IT READS IS OF BULK AT MOST 1048576: true; the input reads as it did. -/
def ringBoundsUptoRow : OpenClaim := { program := "ytndfeihlmhhgpaa", sum := "9c2810da6d634f21e54b3cebd1789b9c62cadb92eb3945f2f13cccb2f0d3b249", func := "sacristan/sacristanlaw25.RingBounds", spec := "ringBounds", unfollowed := true, recurses := true, apart := false, narrowed := true }
def RingBoundsUptoSaid : Prop := ringBoundsUptoRow.holds Try.pinned (OpenSpec.upto ringBoundsSpec)

/-- 'sacristanlaw25.RingNumbers', WHERE WHAT IT READS IS OF BULK AT MOST 1048576: true; the input reads as it did. -/
def ringNumbersUptoRow : OpenClaim := { program := "ytndfeihlmhhgpaa", sum := "9c2810da6d634f21e54b3cebd1789b9c62cadb92eb3945f2f13cccb2f0d3b249", func := "sacristan/sacristanlaw25.RingNumbers", spec := "ringNumbers", unfollowed := true, recurses := true, apart := false, narrowed := true }
def RingNumbersUptoSaid : Prop := ringNumbersUptoRow.holds Try.pinned (OpenSpec.upto ringNumbersSpec)

/-- 'sacristanlaw25.RingExamples', WHERE WHAT IT READS IS OF BULK AT MOST 1048576: true; the input reads as it did. -/
def ringExamplesUptoRow : OpenClaim := { program := "ytndfeihlmhhgpaa", sum := "9c2810da6d634f21e54b3cebd1789b9c62cadb92eb3945f2f13cccb2f0d3b249", func := "sacristan/sacristanlaw25.RingExamples", spec := "ringExamples", unfollowed := true, recurses := true, apart := false, narrowed := true }
def RingExamplesUptoSaid : Prop := ringExamplesUptoRow.holds Try.pinned (OpenSpec.upto ringExamplesSpec)

/-- 'sacristanlaw25.RingTurns', WHERE WHAT IT READS IS OF BULK AT MOST 1048576: true; the input reads as it did. -/
def ringTurnsUptoRow : OpenClaim := { program := "ytndfeihlmhhgpaa", sum := "9c2810da6d634f21e54b3cebd1789b9c62cadb92eb3945f2f13cccb2f0d3b249", func := "sacristan/sacristanlaw25.RingTurns", spec := "ringTurns", unfollowed := true, recurses := true, apart := false, narrowed := true }
def RingTurnsUptoSaid : Prop := ringTurnsUptoRow.holds Try.pinned (OpenSpec.upto ringTurnsSpec)

/-- 'sacristanlaw24.BlockCodes', WHERE WHAT IT READS IS OF BULK AT MOST 1048576: true; the input reads as it did. -/
def blockCodesUptoRow : OpenClaim := { program := "ytndfeihlmhhgpaa", sum := "9c2810da6d634f21e54b3cebd1789b9c62cadb92eb3945f2f13cccb2f0d3b249", func := "sacristan/sacristanlaw24.BlockCodes", spec := "blockCodes", inPlace := ["internal/abi.NoEscape", "internal/bytealg.MakeNoZero"], unfollowed := true, recurses := true, apart := false, narrowed := true }
def BlockCodesUptoSaid : Prop := blockCodesUptoRow.holds Try.pinned (OpenSpec.upto blockCodesSpec)

/-- 'sacristanlaw24.BlockBack', WHERE WHAT IT READS IS OF BULK AT MOST 1048576: true; the input reads as it did. -/
def blockBackUptoRow : OpenClaim := { program := "ytndfeihlmhhgpaa", sum := "9c2810da6d634f21e54b3cebd1789b9c62cadb92eb3945f2f13cccb2f0d3b249", func := "sacristan/sacristanlaw24.BlockBack", spec := "blockBack", inPlace := ["internal/abi.NoEscape", "internal/bytealg.MakeNoZero"], unfollowed := true, recurses := true, apart := false, narrowed := true }
def BlockBackUptoSaid : Prop := blockBackUptoRow.holds Try.pinned (OpenSpec.upto blockBackSpec)

/-- 'sacristanlaw24.BlockTorn', WHERE WHAT IT READS IS OF BULK AT MOST 1048576: true; the input reads as it did. -/
def blockTornUptoRow : OpenClaim := { program := "ytndfeihlmhhgpaa", sum := "9c2810da6d634f21e54b3cebd1789b9c62cadb92eb3945f2f13cccb2f0d3b249", func := "sacristan/sacristanlaw24.BlockTorn", spec := "blockTorn", inPlace := ["internal/abi.NoEscape", "internal/bytealg.MakeNoZero"], unfollowed := true, recurses := true, apart := false, narrowed := true }
def BlockTornUptoSaid : Prop := blockTornUptoRow.holds Try.pinned (OpenSpec.upto blockTornSpec)

/-- 'sacristanlaw24.BlockBits', WHERE WHAT IT READS IS OF BULK AT MOST 1048576: true; the input reads as it did. -/
def blockBitsUptoRow : OpenClaim := { program := "ytndfeihlmhhgpaa", sum := "9c2810da6d634f21e54b3cebd1789b9c62cadb92eb3945f2f13cccb2f0d3b249", func := "sacristan/sacristanlaw24.BlockBits", spec := "blockBits", inPlace := ["internal/abi.NoEscape", "internal/bytealg.MakeNoZero"], unfollowed := true, recurses := true, apart := false, narrowed := true }
def BlockBitsUptoSaid : Prop := blockBitsUptoRow.holds Try.pinned (OpenSpec.upto blockBitsSpec)

/-- 'sacristanlaw24.BlockSplits', WHERE WHAT IT READS IS OF BULK AT MOST 1048576: true; the input reads as it did. -/
def blockSplitsUptoRow : OpenClaim := { program := "ytndfeihlmhhgpaa", sum := "9c2810da6d634f21e54b3cebd1789b9c62cadb92eb3945f2f13cccb2f0d3b249", func := "sacristan/sacristanlaw24.BlockSplits", spec := "blockSplits", inPlace := ["internal/abi.NoEscape", "internal/bytealg.MakeNoZero"], unfollowed := true, recurses := true, apart := false, narrowed := true }
def BlockSplitsUptoSaid : Prop := blockSplitsUptoRow.holds Try.pinned (OpenSpec.upto blockSplitsSpec)

/-- 'sacristanlaw24.BlockExamples', WHERE WHAT IT READS IS OF BULK AT MOST 1048576: true; the input reads as it did. -/
def blockExamplesUptoRow : OpenClaim := { program := "ytndfeihlmhhgpaa", sum := "9c2810da6d634f21e54b3cebd1789b9c62cadb92eb3945f2f13cccb2f0d3b249", func := "sacristan/sacristanlaw24.BlockExamples", spec := "blockExamples", inPlace := ["internal/abi.NoEscape", "internal/bytealg.MakeNoZero"], unfollowed := true, recurses := true, apart := false, narrowed := true }
def BlockExamplesUptoSaid : Prop := blockExamplesUptoRow.holds Try.pinned (OpenSpec.upto blockExamplesSpec)

/-- 'sacristanlaw24.BlockPieces', WHERE WHAT IT READS IS OF BULK AT MOST 1048576: true; the input reads as it did. -/
def blockPiecesUptoRow : OpenClaim := { program := "ytndfeihlmhhgpaa", sum := "9c2810da6d634f21e54b3cebd1789b9c62cadb92eb3945f2f13cccb2f0d3b249", func := "sacristan/sacristanlaw24.BlockPieces", spec := "blockPieces", inPlace := ["internal/abi.NoEscape", "internal/bytealg.MakeNoZero"], unfollowed := true, recurses := true, apart := false, narrowed := true }
def BlockPiecesUptoSaid : Prop := blockPiecesUptoRow.holds Try.pinned (OpenSpec.upto blockPiecesSpec)

end Rows
end Go.Proofs.Ytndfeihlmhhgpaa
